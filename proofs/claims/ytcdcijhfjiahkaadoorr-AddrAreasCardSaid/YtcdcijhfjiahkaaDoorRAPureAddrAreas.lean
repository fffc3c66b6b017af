/- The law AddrAreas, pure. -/
import Derived.Test.YtcdcijhfjiahkaaDoorRA1
import Derived.Test.YtcdcijhfjiahkaaDoorRA6
import Derived.Test.YtcdcijhfjiahkaaDoorRA7
import Derived.Test.YtcdcijhfjiahkaaDoorRAParea
namespace Go.Proofs.YtcdcijhfjiahkaaDoorR.Pure
open Go.RowKit Go.Proofs.YtcdcijhfjiahkaaDoorRW.PrintWords Go.Proofs.YtcdcijhfjiahkaaDoorRW.PrintMore Go.Proofs.YtcdcijhfjiahkaaDoorR.M Go.Proofs.YtcdcijhfjiahkaaDoorR.P Go.Proofs.YtcdcijhfjiahkaaDoorR.AP Go.Proofs.YtcdcijhfjiahkaaDoorR.A
set_option linter.unusedVariables false
set_option linter.unusedSimpArgs false
set_option maxHeartbeats 1000000

abbrev C := S51
/-- The cells that have come, of sheet e. -/
def cells (a b e : Int) (wd n m : Nat) : List C := (Each.came a b wd n m).map fun x => ⟨e, x.1, x.2⟩
theorem all_cells (a b c d e : Int) : addr_Area_Cells.all a b c d e = cells a b e (c - a + 1).toNat (d - b + 1).toNat 0 := rfl
theorem cells_next (a b e : Int) (wd n m : Nat) : cells a b e wd n (m + 1) = cells a b e wd n m ++ [⟨e, a + m, b + n⟩] := by
  unfold cells
  rw [Each.came_next, List.map_append]
  rfl
theorem cells_row (a b e : Int) (wd n : Nat) : cells a b e wd (n + 1) 0 = cells a b e wd n wd := by unfold cells; rw [Each.came_row]
theorem cells_length (a b e : Int) (wd n m : Nat) : (cells a b e wd n m).length = n * wd + m := by unfold cells; rw [List.length_map, Each.came_length]
theorem mem_came (a b : Int) (wd n : Nat) (x : Int × Int) : x ∈ Each.came a b wd n 0 ↔ a ≤ x.1 ∧ x.1 < a + wd ∧ b ≤ x.2 ∧ x.2 < b + n := by
  unfold Each.came Each.upto Each.rowOf
  simp only [List.range_zero, List.map_nil, List.append_nil, List.mem_flatMap, List.mem_range, List.mem_map]
  constructor
  · rintro ⟨i, hi, j, hj, rfl⟩
    refine ⟨?_, ?_, ?_, ?_⟩ <;> simp <;> omega
  · rintro ⟨h1, h2, h3, h4⟩
    refine ⟨(x.2 - b).toNat, by omega, (x.1 - a).toNat, by omega, ?_⟩
    ext <;> simp <;> omega
theorem mem_cells (a b e : Int) (wd n : Nat) (y : C) : y ∈ cells a b e wd n 0 ↔ y.f0 = e ∧ a ≤ y.f1 ∧ y.f1 < a + wd ∧ b ≤ y.f2 ∧ y.f2 < b + n := by
  unfold cells
  rw [List.mem_map]
  constructor
  · rintro ⟨x, hx, rfl⟩
    exact ⟨rfl, (mem_came a b wd n x).1 hx⟩
  · rintro ⟨h0, h⟩
    refine ⟨(y.f1, y.f2), (mem_came a b wd n (y.f1, y.f2)).2 h, ?_⟩
    cases y
    simp only at h0 ⊢
    subst h0
    rfl
theorem refCells (a b c d e : Int) : Ev (fun k => abacistref10_Area_Cells.f k a b c d e) (if wellT a b c d = true then addr_Area_Cells.all a b c d e else []) := by
  unfold abacistref10_Area_Cells.f
  refine Ev.bind (refNorm a b c d) ?_
  have hno : wellT a b c d = false → Ev (fun k => abacistref10_Area_Cells.j0 k e true a b c d) (if wellT a b c d = true then addr_Area_Cells.all a b c d e else []) := by
    intro h
    rw [h]
    refine Ev.step (fun k => by rw [abacistref10_Area_Cells.j0]) ?_
    refine Ev.pos rfl ?_
    exact Ev.now _
  by_cases h0 : (normT a b c d).2.2.2.2 = 0
  · refine Ev.pos h0 ?_
    have hw : (!(a == (normT a b c d).1) || (!(b == (normT a b c d).2.1) || (!(c == (normT a b c d).2.2.1) || (!(d == (normT a b c d).2.2.2.1))))) = !wellT a b c d := by
      unfold wellT
      rw [if_pos h0]
      simp only [Bool.not_and]
    rw [hw]
    cases hwt : wellT a b c d with
    | false => have := hno hwt; rwa [hwt] at this
    | true =>
      obtain ⟨⟨h1, h2, h3⟩, ⟨h4, h5, h6⟩, h7⟩ := wellT_iff.1 hwt
      rw [if_pos rfl, all_cells]
      refine Ev.step (fun k => by rw [abacistref10_Area_Cells.j0]) ?_
      refine Ev.neg (by decide) ?_
      obtain ⟨wd, hwd⟩ : ∃ wd : Nat, (c - a + 1).toNat = wd := ⟨_, rfl⟩
      rw [hwd]
      have bound : ∀ i j : Nat, i ≤ 99 → j ≤ 52 → i * wd + j < 5864062014805 := by
        intro i j hi hj
        have : i * wd ≤ 99 * 52 := Nat.mul_le_mul hi (by omega)
        omega
      have inner : ∀ (q i : Nat), q + i = (d - b + 1).toNat → Ev (fun k => abacistref10_Area_Cells.l0 k e (cells a b e wd (i + 1) 0) (b + ((i + 1 : Nat) : Int)) a b c d) (cells a b e wd (d - b + 1).toNat 0) → 0 < q →
          ∀ (p j : Nat), p + j = wd → Ev (fun k => abacistref10_Area_Cells.l1 k e (cells a b e wd i j) (b + (i : Int)) (a + (j : Int)) a b c d) (cells a b e wd (d - b + 1).toNat 0) := by
        intro q i hq hrec hq0 p
        induction p with
        | zero =>
          intro j hj
          refine Ev.step (fun k => by rw [abacistref10_Area_Cells.l1]) ?_
          refine Ev.neg (by omega) ?_
          have e1 : wrap64 (b + (i : Int) + 1) = b + ((i + 1 : Nat) : Int) := by rw [w64 (by omega) (by omega)]; omega
          rw [e1, show j = wd by omega, ← cells_row]
          exact hrec
        | succ p ihp =>
          intro j hj
          refine Ev.step (fun k => by rw [abacistref10_Area_Cells.l1]) ?_
          refine Ev.pos (by omega) ?_
          refine Ev.pos (by rw [cells_length]; exact bound i j (by omega) (by omega)) ?_
          have e1 : wrap64 (a + (j : Int) + 1) = a + ((j + 1 : Nat) : Int) := by rw [w64 (by omega) (by omega)]; omega
          rw [e1, ← cells_next]
          exact ihp (j + 1) (by omega)
      have outer : ∀ (q i : Nat), q + i = (d - b + 1).toNat → Ev (fun k => abacistref10_Area_Cells.l0 k e (cells a b e wd i 0) (b + (i : Int)) a b c d) (cells a b e wd (d - b + 1).toNat 0) := by
        intro q
        induction q with
        | zero =>
          intro i hi
          refine Ev.step (fun k => by rw [abacistref10_Area_Cells.l0]) ?_
          refine Ev.neg (by omega) ?_
          rw [show i = (d - b + 1).toNat by omega]
          exact Ev.now _
        | succ q ihq =>
          intro i hi
          refine Ev.step (fun k => by rw [abacistref10_Area_Cells.l0]) ?_
          refine Ev.pos (by omega) ?_
          have := inner (q + 1) i hi (ihq (i + 1) (by omega)) (by omega) wd 0 (by omega)
          rwa [Int.natCast_zero, Int.add_zero] at this
      have := outer (d - b + 1).toNat 0 (by omega)
      rwa [Int.natCast_zero, Int.add_zero] at this
  · refine Ev.neg h0 ?_
    exact hno (by unfold wellT; rw [if_neg h0])
theorem cellsEq (l : List C) (hl : l.length < 9223372036854775807) : Ev (fun k => abacistref10_Cells.f k l l) true := by
  unfold abacistref10_Cells.f
  refine Ev.pos rfl ?_
  suffices hh : ∀ (d i : Nat), i + d = l.length → Ev (fun k => abacistref10_Cells.l0 k l l (i : Int)) true from hh l.length 0 (by omega)
  intro d
  induction d with
  | zero =>
    intro i hi
    refine Ev.step (fun k => by rw [abacistref10_Cells.l0]) ?_
    refine Ev.neg (by omega) ?_
    exact Ev.now _
  | succ d ih =>
    intro i hi
    refine Ev.step (fun k => by rw [abacistref10_Cells.l0]) ?_
    refine Ev.pos (by omega) ?_
    refine Ev.pos (by omega) ?_
    refine Ev.pos (by omega) ?_
    refine Ev.neg (by simp) ?_
    rw [w64_succ i (by omega)]
    exact ih (i + 1) (by omega)
theorem prod_toNat (x y : Int) (hx : 0 ≤ x) (hy : 0 ≤ y) : ((x.toNat * y.toNat : Nat) : Int) = x * y := by
  rw [Int.natCast_mul, Int.toNat_of_nonneg hx, Int.toNat_of_nonneg hy]
theorem all_length {a b c d e : Int} (h : wellT a b c d = true) : (((addr_Area_Cells.all a b c d e).length : Nat) : Int) = (c - a + 1) * (d - b + 1) ∧ (addr_Area_Cells.all a b c d e).length ≤ 200 ∧ 1 ≤ (addr_Area_Cells.all a b c d e).length := by
  obtain ⟨⟨h1, h2, h3⟩, ⟨h4, h5, h6⟩, h7⟩ := wellT_iff.1 h
  rw [all_cells, cells_length, Nat.add_zero]
  have e1 := prod_toNat (d - b + 1) (c - a + 1) (by omega) (by omega)
  rw [Int.mul_comm] at e1
  refine ⟨e1, by omega, ?_⟩
  have : 1 * 1 ≤ (d - b + 1).toNat * (c - a + 1).toNat := Nat.mul_le_mul (by omega) (by omega)
  omega
theorem addrSize (a b c d : Int) : Ev (fun k => addr_Area_Size.f k a b c d) (if wellT a b c d = true then (c - a + 1) * (d - b + 1) else 0) := by
  unfold addr_Area_Size.f
  refine Ev.bind (addrWell a b c d) ?_
  by_cases h : wellT a b c d = true
  · rw [if_pos h, if_pos h]
    obtain ⟨⟨h1, h2, h3⟩, ⟨h4, h5, h6⟩, h7⟩ := wellT_iff.1 h
    obtain ⟨b1, b2⟩ := mul_bound (x := c - a + 1) (y := d - b + 1) (by omega) (by omega) (by omega) (by omega)
    refine Ev.some (a := (c - a + 1) * (d - b + 1)) ?_ (Ev.now _)
    unfold addr_Area_size.f
    rw [w64 (x := c - a) (by omega) (by omega), w64 (x := c - a + 1) (by omega) (by omega), w64 (x := d - b) (by omega) (by omega), w64 (x := d - b + 1) (by omega) (by omega), w64 (by omega) (by omega)]
  · rw [if_neg h, if_neg h]
    exact Ev.now _
def hasT (a b c d x y : Int) : Bool := wellT a b c d && (decide (a ≤ x) && (decide (x ≤ c) && (decide (b ≤ y) && decide (y ≤ d))))
theorem addrHas (a b c d x y : Int) : Ev (fun k => addr_Area_Has.f k a b c d x y) (hasT a b c d x y) := by
  unfold addr_Area_Has.f hasT
  refine Ev.bind (addrWell a b c d) ?_
  cases h : wellT a b c d with
  | false =>
    refine Ev.neg (by decide) ?_
    exact Ev.now _
  | true =>
    refine Ev.pos rfl ?_
    by_cases h1 : a ≤ x
    · refine Ev.pos h1 ?_
      rw [decide_eq_true h1]
      by_cases h2 : x ≤ c
      · refine Ev.pos h2 ?_
        rw [decide_eq_true h2]
        by_cases h3 : b ≤ y
        · refine Ev.pos h3 ?_
          rw [decide_eq_true h3]
          simp only [Bool.true_and]
          exact Ev.now _
        · refine Ev.neg h3 ?_
          rw [decide_eq_false h3]
          exact Ev.now _
      · refine Ev.neg h2 ?_
        rw [decide_eq_false h2]
        exact Ev.now _
    · refine Ev.neg h1 ?_
      rw [decide_eq_false h1]
      exact Ev.now _
theorem getD_cell (l : List C) (i : Nat) (h : i < l.length) : rd_T51 l (i : Int) = l[i] := by
  unfold rd_T51
  rw [Int.toNat_natCast, List.getD_eq_getElem?_getD, List.getElem?_eq_getElem h]
  rfl
theorem refHasRow (x y : Int) (l : List C) (hl : l.length < 9223372036854775807) (r : Bool) (hr : r = true ↔ ∃ z ∈ l, z.f1 = x ∧ z.f2 = y) : Ev (fun k => abacistref10_Area_Has.l0 k x y l 0) r := by
  suffices hh : ∀ (d i : Nat), i + d = l.length → (∀ j (h : j < l.length), j < i → ¬ (l[j].f1 = x ∧ l[j].f2 = y)) → Ev (fun k => abacistref10_Area_Has.l0 k x y l (i : Int)) r from
    hh l.length 0 (by omega) (fun j h hj => absurd hj (by omega))
  intro d
  induction d with
  | zero =>
    intro i hi hno
    refine Ev.step (fun k => by rw [abacistref10_Area_Has.l0]) ?_
    refine Ev.neg (by omega) ?_
    have : r = false := by
      rw [← Bool.not_eq_true, hr]
      rintro ⟨z, hz, hzz⟩
      obtain ⟨j, hj, rfl⟩ := List.getElem_of_mem hz
      exact hno j hj (by omega) hzz
    rw [this]
    exact Ev.now _
  | succ d ih =>
    intro i hi hno
    have hil : i < l.length := by omega
    refine Ev.step (fun k => by rw [abacistref10_Area_Has.l0]) ?_
    rw [getD_cell l i hil, w64_succ i (by omega)]
    refine Ev.pos (by omega) ?_
    refine Ev.pos (by omega) ?_
    have next : ¬ (l[i].f1 = x ∧ l[i].f2 = y) → Ev (fun k => abacistref10_Area_Has.l0 k x y l ((i + 1 : Nat) : Int)) r := fun hne => ih (i + 1) (by omega) (fun j h hj => by
      by_cases hji : j = i
      · subst hji; exact hne
      · exact hno j h (by omega))
    by_cases h1 : l[i].f1 = x
    · refine Ev.pos h1 ?_
      by_cases h2 : l[i].f2 = y
      · refine Ev.pos h2 ?_
        rw [hr.2 ⟨l[i], List.getElem_mem hil, h1, h2⟩]
        exact Ev.now _
      · refine Ev.neg h2 ?_
        exact next (fun h => h2 h.2)
    · refine Ev.neg h1 ?_
      exact next (fun h => h1 h.1)
theorem mem_all {a b c d e : Int} (h : wellT a b c d = true) (z : C) : z ∈ addr_Area_Cells.all a b c d e ↔ z.f0 = e ∧ a ≤ z.f1 ∧ z.f1 ≤ c ∧ b ≤ z.f2 ∧ z.f2 ≤ d := by
  obtain ⟨⟨h1, h2, h3⟩, ⟨h4, h5, h6⟩, h7⟩ := wellT_iff.1 h
  rw [all_cells, mem_cells]
  constructor
  · rintro ⟨g0, g1, g2, g3, g4⟩; exact ⟨g0, by omega, by omega, by omega, by omega⟩
  · rintro ⟨g0, g1, g2, g3, g4⟩; exact ⟨g0, by omega, by omega, by omega, by omega⟩
theorem refHas (a b c d x y : Int) : Ev (fun k => abacistref10_Area_Has.f k a b c d x y) (hasT a b c d x y) := by
  unfold abacistref10_Area_Has.f
  refine Ev.bind (refCells a b c d 0) ?_
  cases h : wellT a b c d with
  | false =>
    rw [if_neg (by decide)]
    exact refHasRow x y [] (by decide) _ (by unfold hasT; rw [h]; simp)
  | true =>
    rw [if_pos rfl]
    refine refHasRow x y _ (by have := (all_length (e := 0) h).2.1; omega) _ ?_
    unfold hasT
    rw [h]
    simp only [Bool.true_and, Bool.and_eq_true, decide_eq_true_eq]
    constructor
    · rintro ⟨g1, g2, g3, g4⟩
      exact ⟨⟨0, x, y⟩, (mem_all h _).2 ⟨rfl, g1, g2, g3, g4⟩, rfl, rfl⟩
    · rintro ⟨z, hz, rfl, rfl⟩
      obtain ⟨_, g1, g2, g3, g4⟩ := (mem_all h _).1 hz
      exact ⟨g1, g2, g3, g4⟩
theorem norm_well {a b c d : Int} (h : (normT a b c d).2.2.2.2 = 0) : normT a b c d = (mn a c, mn b d, mx a c, mx b d, 0) ∧ wellT (mn a c) (mn b d) (mx a c) (mx b d) = true := by
  unfold normT at h ⊢
  by_cases h1 : inA a b = true
  · by_cases h2 : inA c d = true
    · rw [if_pos h1, if_pos h2] at h ⊢
      obtain ⟨i1, i2, i3, i4⟩ := inA_iff.1 h1
      obtain ⟨j1, j2, j3, j4⟩ := inA_iff.1 h2
      obtain ⟨m1, m2, m3⟩ := mn_mx i1 i2 j1 j2
      obtain ⟨n1, n2, n3⟩ := mn_mx i3 i4 j3 j4
      by_cases h3 : area a b c d > 200
      · rw [if_pos h3] at h; simp at h
      · rw [if_neg h3]
        refine ⟨rfl, wellT_iff.2 ⟨⟨m1, m2, m3⟩, ⟨n1, n2, n3⟩, ?_⟩⟩
        unfold area at h3
        omega
    · rw [if_pos h1, if_neg h2] at h; simp at h
  · rw [if_neg h1] at h; simp at h
theorem area_tail (a b c d : Int) (l : List C) (hl : l.length ≤ 200) (hall : ∀ z ∈ l, hasT a b c d z.f1 z.f2 = true) (n1 n2 n3 n4 err : Int) (hn : normT a b c d = (n1, n2, n3, n4, err)) :
    Ev (fun k => abacistlaw10_AddrAreas.l0 k err l 0 a b c d a b c d n1 n2 n3 n4) true := by
  suffices hh : ∀ (q i : Nat), i + q = l.length → Ev (fun k => abacistlaw10_AddrAreas.l0 k err l (i : Int) a b c d a b c d n1 n2 n3 n4) true from hh l.length 0 (by omega)
  intro q
  induction q with
  | zero =>
    intro i hi
    refine Ev.step (fun k => by rw [abacistlaw10_AddrAreas.l0]) ?_
    refine Ev.neg (by omega) ?_
    by_cases h0 : err = 0
    · refine Ev.pos h0 ?_
      obtain ⟨e, hw⟩ := norm_well (a := a) (b := b) (c := c) (d := d) (by rw [hn]; exact h0)
      rw [hn] at e
      simp only [Prod.mk.injEq] at e
      obtain ⟨rfl, rfl, rfl, rfl, rfl⟩ := e
      refine Ev.bind (addrSize _ _ _ _) ?_
      rw [if_pos hw]
      have hlen := all_length (e := 0) hw
      refine Ev.pos (by have := hlen.1; have := hlen.2.2; omega) ?_
      have has : ∀ x y, mn a c ≤ x → x ≤ mx a c → mn b d ≤ y → y ≤ mx b d → hasT (mn a c) (mn b d) (mx a c) (mx b d) x y = true := by
        intro x y g1 g2 g3 g4
        unfold hasT
        rw [hw, decide_eq_true g1, decide_eq_true g2, decide_eq_true g3, decide_eq_true g4]
        rfl
      have hh1 := addrHas (mn a c) (mn b d) (mx a c) (mx b d) a b
      rw [has a b (by unfold mn; split <;> omega) (by unfold mx; split <;> omega) (by unfold mn; split <;> omega) (by unfold mx; split <;> omega)] at hh1
      refine Ev.bind hh1 ?_
      refine Ev.pos rfl ?_
      have hh2 := addrHas (mn a c) (mn b d) (mx a c) (mx b d) c d
      rw [has c d (by unfold mn; split <;> omega) (by unfold mx; split <;> omega) (by unfold mn; split <;> omega) (by unfold mx; split <;> omega)] at hh2
      refine Ev.bind hh2 ?_
      refine Ev.pos rfl ?_
      exact Ev.bind known (Ev.now _)
    · refine Ev.neg h0 ?_
      exact Ev.bind known (Ev.now _)
  | succ q ih =>
    intro i hi
    have hil : i < l.length := by omega
    refine Ev.step (fun k => by rw [abacistlaw10_AddrAreas.l0]) ?_
    refine Ev.pos (by omega) ?_
    refine Ev.pos (by omega) ?_
    rw [getD_cell l i hil, w64_succ i (by omega)]
    have hh1 := addrHas a b c d l[i].f1 l[i].f2
    rw [hall l[i] (List.getElem_mem hil)] at hh1
    refine Ev.bind hh1 ?_
    refine Ev.pos rfl ?_
    exact ih (i + 1) (by omega)
theorem AddrAreas' (a b c d e x y : Int) : ∃ k, abacistlaw10_AddrAreas.f k a b c d e x y = some true := by
  apply Ev.rounds (g := fun k => abacistlaw10_AddrAreas.f k a b c d e x y)
  unfold abacistlaw10_AddrAreas.f
  refine Ev.bind (addrNorm a b c d) ?_
  refine Ev.bind (refNorm a b c d) ?_
  refine Ev.neg (by simp) ?_
  rw [show ((normT a b c d).2.2.2.2 != (normT a b c d).2.2.2.2) = false by simp]
  refine Ev.step (fun k => by rw [abacistlaw10_AddrAreas.j0]) ?_
  refine Ev.neg (by decide) ?_
  refine Ev.bind (addrCells a b c d e) ?_
  refine Ev.bind (refCells a b c d e) ?_
  have hlen : (if wellT a b c d = true then addr_Area_Cells.all a b c d e else []).length ≤ 200 := by
    split
    · rename_i h; exact (all_length h).2.1
    · simp
  refine Ev.bind (cellsEq _ (by omega)) ?_
  refine Ev.pos rfl ?_
  refine Ev.bind (addrSize a b c d) ?_
  refine Ev.pos (by
    cases h : wellT a b c d with
    | false => rw [if_neg (by decide), if_neg (by decide)]; rfl
    | true => rw [if_pos rfl, if_pos rfl]; exact (all_length h).1.symm) ?_
  refine Ev.bind (addrHas a b c d x y) ?_
  refine Ev.bind (refHas a b c d x y) ?_
  rw [show (hasT a b c d x y != hasT a b c d x y) = false by simp]
  refine Ev.step (fun k => by rw [abacistlaw10_AddrAreas.j1]) ?_
  refine Ev.neg (by decide) ?_
  refine area_tail a b c d _ hlen ?_ _ _ _ _ _ rfl
  intro z hz
  cases h : wellT a b c d with
  | false => rw [h, if_neg (by decide)] at hz; cases hz
  | true =>
    rw [h, if_pos rfl] at hz
    obtain ⟨_, g1, g2, g3, g4⟩ := (mem_all h z).1 hz
    unfold hasT
    rw [h, decide_eq_true g1, decide_eq_true g2, decide_eq_true g3, decide_eq_true g4]
    rfl
theorem AddrAreas (a0_0 a0_1 a0_2 a0_3 a1 a2 a3 : Int) (_ : (Lit.int .i64 a0_0).wf = true) (_ : (Lit.int .i64 a0_1).wf = true) (_ : (Lit.int .i64 a0_2).wf = true) (_ : (Lit.int .i64 a0_3).wf = true) (_ : (Lit.int .i64 a1).wf = true) (_ : (Lit.int .i64 a2).wf = true) (_ : (Lit.int .i64 a3).wf = true) : ∃ k, abacistlaw10_AddrAreas.f k a0_0 a0_1 a0_2 a0_3 a1 a2 a3 = some true := AddrAreas' a0_0 a0_1 a0_2 a0_3 a1 a2 a3
end Go.Proofs.YtcdcijhfjiahkaaDoorR.Pure
