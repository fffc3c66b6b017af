/- (addr.Area).Cells: the cells of an area, row by row: the contract, by hand (a range over a function that appends). -/
import Derived.Test.YtcdcijhfjiahkaaDoorRA2
import Derived.Test.YtcdcijhfjiahkaaDoorREach
import Derived.Test.YtcdcijhfjiahkaaDoorROwn
namespace Go.Proofs.YtcdcijhfjiahkaaDoorR.A
open Go.RowKit Go.Shelf Go.Proofs.YtcdcijhfjiahkaaDoorRW.PrintWords Go.Proofs.YtcdcijhfjiahkaaDoorRW.PrintLast Go.Proofs.YtcdcijhfjiahkaaDoorRW.PrintMore
attribute [local go_sem] Oper.semAt_some
set_option linter.unusedVariables false
set_option linter.unusedSimpArgs false

def addr_Area_Cells.all (a0_0 a0_1 a0_2 a0_3 a1 : Int) : List S51 := (Each.came a0_0 a0_1 (a0_2 - a0_0 + 1).toNat (a0_3 - a0_1 + 1).toNat 0).map fun x => ⟨a1, x.1, x.2⟩
def addr_Area_Cells.f (k : Nat) (a0_0 a0_1 a0_2 a0_3 a1 : Int) : Option (List S51) :=
  (addr_Area_well.f k a0_0 a0_1 a0_2 a0_3).bind fun b => if b = true then (if 1 ≤ a0_0 ∧ a0_0 ≤ a0_2 ∧ a0_2 ≤ 52 ∧ 1 ≤ a0_1 ∧ a0_1 ≤ a0_3 ∧ a0_3 ≤ 99 then some (addr_Area_Cells.all a0_0 a0_1 a0_2 a0_3 a1) else none) else some []
theorem addr_Area_Cells.mono : ∀ a0 a1 a2 a3 a4 k, LeO (addr_Area_Cells.f k a0 a1 a2 a3 a4) (addr_Area_Cells.f (k + 1) a0 a1 a2 a3 a4) := fun _ _ _ _ _ _ => LeO.bind (addr_Area_well.mono _ _ _ _ _) (fun _ => LeO.refl _)
namespace Hcells
/-- An element's cells. -/
def cellsOf (a1 : Int) (x : Int × Int) : List Value := [.int .i64 a1, .int .i64 x.1, .int .i64 x.2]
/-- What has come. -/
def Row (a1 : Int) (W : World) (n₁ B : Nat) (pre : List (Int × Int)) : Prop :=
  ∃ v, Boxed W B 46 v ∧ W.ownsRow n₁ 51 3 v pre.length (pre.flatMap (cellsOf a1))
theorem Row.own (a1 : Int) (n₁ B : Nat) : Own (fun pre W => Row a1 W n₁ B pre) := by
  intro s W W' row ⟨v, hv, hr⟩ hg hrow
  obtain ⟨v', h1, h2, _⟩ := holdsRow_own n₁ B 46 51 3 (fun pre : List (Int × Int) => pre.length) (fun pre => pre.flatMap (cellsOf a1)) (fun _ _ => True) s W W' row ⟨v, hv, hr, trivial⟩ hg hrow
  exact ⟨v', h1, h2⟩
theorem reps (a1 : Int) (W : World) (base : Nat) (ok : Nat → Prop) (l : List (Int × Int)) : Reps (k51.M W base ok) 3 (l.map fun x => (⟨a1, x.1, x.2⟩ : S51)) (l.flatMap (cellsOf a1)) := by
  induction l with
  | nil => exact Reps.none _ _
  | cons x l ih => exact Reps.c3 (k51_mkM W base ok ⟨a1, x.1, x.2⟩) ih

set_option maxRecDepth 100000 in
set_option maxHeartbeats 4000000 in
theorem main (k : Nat) (a0_0 a0_1 a0_2 a0_3 a1 : Int) (w : World) (hwell : addr_Area_well.f k a0_0 a0_1 a0_2 a0_3 = some true) (hc1 : 1 ≤ a0_0) (hc2 : a0_0 ≤ a0_2) (hc3 : a0_2 ≤ 52) (hr1 : 1 ≤ a0_1) (hr2 : a0_1 ≤ a0_3) (hr3 : a0_3 ≤ 99) :
    Calls Tryd.prog 35 #[.agg #[.int .i64 a0_0, .int .i64 a0_1, .int .i64 a0_2, .int .i64 a0_3], .int .i64 a1] w fun e w' => ∃ v0_ : Value, e = .returned (v0_) ∧ Kd.R k51 51 w' w.heap.size (fun _ => True) v0_ (addr_Area_Cells.all a0_0 a0_1 a0_2 a0_3 a1) ∧ Below w.heap.size w w' := by
  obtain ⟨i0, hi, hz0, hz1, hz2⟩ := info_parts info51
  have hu41 := Tryd.underlying41
  refine (callsIn_wide (n := 3)).1 ?_
  refine callsIn_of_wp_marks Tryd.func35 rfl trivial ?_ rfl
  simp only [Tryd.ntmps35, List.size_toArray, List.length_cons, List.length_nil, Nat.reduceAdd, Nat.reduceSub, Array.replicate_succ, Array.replicate_zero, List.push_toArray, List.append_toArray, List.nil_append, List.cons_append]
  have HW := Lib.hid hwell
  clear hwell
  obtain ⟨ar, har⟩ : ∃ ar : Array Value, ar = #[.int .i64 a0_0, .int .i64 a0_1, .int .i64 a0_2, .int .i64 a0_3] := ⟨_, rfl⟩
  have hA0 : ((w.alloc (.cells ar 41)).alloc (.cells #[.int .i64 a1] 3)).heap[w.heap.size]? = some (.cells ar 41 (0, 0)) := (Below.heap_alloc _ _ _ (by simp)).trans (World.alloc_heap_new w _)
  have hS0 : Boxed ((w.alloc (.cells ar 41)).alloc (.cells #[.int .i64 a1] 3)) (w.heap.size + 1) 3 (.int .i64 a1) := by
    have := Boxed.new (w.alloc (.cells ar 41)) 3 (.int .i64 a1)
    rwa [World.size_alloc] at this
  rw [har] at hA0 hS0
  have hB0 : Below w.heap.size w ((w.alloc (.cells ar 41)).alloc (.cells #[.int .i64 a1] 3)) := ((Below.refl _ w).alloc (Nat.le_refl _) _).alloc (by simp) _
  rw [har] at hB0
  have q0 : ∀ {V : World}, V.heap[w.heap.size]? = some (.cells #[.int .i64 a0_0, .int .i64 a0_1, .int .i64 a0_2, .int .i64 a0_3] 41 (0, 0)) → V.cell? ⟨w.heap.size, 0, none⟩ = some (.int .i64 a0_0) ∧ V.cell? ⟨w.heap.size, 1, none⟩ = some (.int .i64 a0_1) ∧ V.cell? ⟨w.heap.size, 2, none⟩ = some (.int .i64 a0_2) ∧ V.cell? ⟨w.heap.size, 3, none⟩ = some (.int .i64 a0_3) :=
    fun h => by simp [World.cell?, h]
  clear har
  gi_wp2_with (first | (refine ⟨trivial, ?_⟩; gi_at_call 85; refine (callsIn_wide.2 (addr_Area_well.calls k a0_0 a0_1 a0_2 a0_3 true _ HW.out)).mono ?_; rintro e w1 ⟨rfl, hb⟩; have hA1 := (hb.block w.heap.size (by simp; omega)).trans hA0; have hS1 : Boxed w1 (w.heap.size + 1) 3 (.int .i64 a1) := (hb.block _ (by simp)).trans hS0; have hB1 : Below w.heap.size w w1 := hB0.trans (hb.mono (by simp; omega)); have hsz1 := hb.size; simp only [World.size_alloc] at hsz1; have hA2 := (Below.heap_alloc w1 (.cells #[.slice none 0 0] 46) w.heap.size (by omega)).trans hA1; obtain ⟨g0, g1, g2, g3⟩ := q0 hA2) | (refine ⟨trivial, ?_⟩; gi_at_call 86; refine (Each.each_in Fence.wide (3 - 1) trivial rfl _ _ _ _ _).mono ?_; rintro e w' ⟨rfl, rfl⟩))
  have bB := Boxed.new w1 46 (.slice none 0 0)
  have hB2 := hB1.alloc (by omega) (.cells #[.slice none 0 0] 46)
  have hS2 := hS1.alloc (.cells #[.slice none 0 0] 46)
  obtain ⟨W2, hW2⟩ : ∃ W2, w1.alloc (.cells #[.slice none 0 0] 46) = W2 := ⟨_, rfl⟩
  have hsz2 : W2.heap.size = w1.heap.size + 1 := by rw [← hW2]; simp
  rw [hW2] at bB hB2 hS2 ⊢
  clear hW2 g0 g1 g2 g3 hA2
  have bB' := bB.alloc (.cells #[.int .i64 a0_0, .int .i64 a0_1, .int .i64 a0_2, .int .i64 a0_3] 41)
  have hS3 := hS2.alloc (.cells #[.int .i64 a0_0, .int .i64 a0_1, .int .i64 a0_2, .int .i64 a0_3] 41)
  have hB3 := hB2.alloc (by omega) (.cells #[.int .i64 a0_0, .int .i64 a0_1, .int .i64 a0_2, .int .i64 a0_3] 41)
  have hE3 := World.alloc_heap_new W2 (.cells #[.int .i64 a0_0, .int .i64 a0_1, .int .i64 a0_2, .int .i64 a0_3] 41)
  obtain ⟨W0, hW0⟩ : ∃ W0, W2.alloc (.cells #[.int .i64 a0_0, .int .i64 a0_1, .int .i64 a0_2, .int .i64 a0_3] 41) = W0 := ⟨_, rfl⟩
  have hsz3 : W0.heap.size = W2.heap.size + 1 := by rw [← hW0]; simp
  rw [hW0] at bB' hS3 hB3 hE3 ⊢
  clear hW0
  rw [hsz2] at hE3
  obtain ⟨keep, hkeep⟩ : ∃ keep : Nat → Prop, keep = fun k => k < W0.heap.size ∧ k ≠ w1.heap.size := ⟨_, rfl⟩
  have hkb : ∀ k, keep k → k < W0.heap.size := by rw [hkeep]; exact fun k hk => hk.1
  have hRd : Each.Reads keep W0 (w1.heap.size + 1) a0_0 a0_1 a0_2 a0_3 := fun W hW => (hW _ (by rw [hkeep]; exact ⟨by omega, by omega⟩)).trans hE3
  have hkS : keep (w.heap.size + 1) := by rw [hkeep]; exact ⟨by omega, by omega⟩
  have hkk : ∀ k, keep k → k < W0.heap.size ∧ k ≠ w1.heap.size := by rw [hkeep]; exact fun _ h => h
  clear hkeep
  refine wpIn_rangeFunc_ownG (F := Fence.wide) (n := 3) rfl (by omega) (gf := 114) (lb := #[.pointer (some ⟨w1.heap.size + 1, 0, none⟩)]) rfl trivial (enters_of Tryd.func114 (by kernel_rfl) rfl)
    (Each.stops Fence.wide (3 - 1) trivial rfl (by omega) (w1.heap.size + 1) a0_0 a0_1 a0_2 a0_3 hc1 hc2 hc3 hr1 hr2 hr3 keep W0 hkb hRd) Each.Keeps.trans (Each.Keeps.b hkb) (Below.refl _ _) (fun _ => rfl)
    (fun pre W => ((Row a1 W W0.heap.size w1.heap.size pre ∧ Boxed W (w.heap.size + 1) 3 (.int .i64 a1)) ∧ W0.heap.size ≤ W.heap.size) ∧ Below w.heap.size w W)
    (fun _ _ _ => False)
    (OwnFrom.and (fun s A B row hs hg hr => ⟨⟨(Row.own a1 W0.heap.size w1.heap.size) s A B row hs.1.1 hg (fun r e => (hr r e).2), hs.1.2.kept hg (fun e => by
      obtain ⟨o, ho, hc⟩ := (hr _ e.symm).2
      rw [show A.heap[w.heap.size + 1]? = _ from hs.1.2] at ho; cases ho; cases hc)⟩, Nat.le_trans hs.2 hg.size⟩) (ownFrom_below (Nat.le_refl _) (by omega)))
    (fun _ _ _ _ _ hs _ _ => hs)
    ⟨⟨⟨⟨_, bB', World.ownsRow_nil _ _ _ _⟩, hS3⟩, Nat.le_refl _⟩, hB3⟩
    ?a1 ?assign ?body ?done ?stop
  case assign =>
    intro l x W K hK
    gi_wp2
    exact hK
  case body =>
    rintro l pre x W ⟨⟨⟨⟨v, hv, hown⟩, hS⟩, hWsz⟩, hB⟩ hlt
    have hc := hv.cell
    have hc2 := hS.cell
    gi_wp2_with (gi_at_builtin; refine wpListIn_append_own _ rfl _ _ 46 rfl W0.heap.size 51 i0 (.agg #[.int .i64 0, .int .i64 0, .int .i64 0]) 3 24 Tryd.underlying46 hi hz0 hz1 hz2 rfl (by decide) _ _ _ rfl (hown.alloc _) ⟨W.heap.size, 0, none⟩ 1 1 _ rfl rfl (Own.cells_new _ _ _) (by simp [Value.oneCell']) (by unfold maxLen; omega) (by omega) (by simp; omega) ?_; intro v' w2 hown' hgrow _; obtain ⟨g', cap', rfl⟩ := ownsRow_succ hown'; obtain ⟨hv1, hv2, hr2', hk2, hb2, hkeep2, hszz2⟩ := Own.appendedK hv (by decide) hown hWsz (Nat.le_refl _) (by omega) hown' hgrow; have hcc1 := hv1.cell; have hf1 := hv1.frozen)
    refine ⟨hk2.from _, fun k hk => hkeep2 k (hkk k hk).1 (hkk k hk).2, ⟨⟨⟨_, hv2, ?_⟩, (hkeep2 _ (hkk _ hkS).1 (hkk _ hkS).2).trans hS⟩, Nat.le_trans hWsz hszz2⟩, hB.trans (hb2.mono (by omega))⟩
    rw [List.flatMap_append, List.length_append]
    simpa [cellsOf] using hr2'
  case done =>
    rintro D ys W hD rfl ⟨⟨⟨⟨v, hv, hown⟩, hS⟩, hWsz⟩, hB⟩ hK
    have hc := hv.cell
    gi_wp2
    have hbk : Below w.heap.size W (W.putObj D (.deferred none)) := belowK_b (w := w) (Nat.le_refl _) W D _ _ (by omega) hK rfl rfl
    have ho := own_weaken (ownsRow_putObj hown (.deferred none) hK rfl) (show w.heap.size ≤ W0.heap.size by omega)
    refine ⟨by simp, .inl ⟨_, _, rfl, run_takeDeferred hK, ?_⟩⟩
    refine ⟨_, results_tmp rfl _ _ _, v, rfl, ⟨fun _ _ => trivial, _, ?_, reps a1 _ _ _ _⟩, hB.trans hbk⟩
    unfold addr_Area_Cells.all
    rw [List.length_map]
    exact ho
  case stop =>
    rintro D c pre W _ _ h _
    exact h.elim
end Hcells
set_option maxHeartbeats 2000000 in
theorem addr_Area_Cells.none (k : Nat) (a0_0 a0_1 a0_2 a0_3 a1 : Int) (w : World) (hwell : addr_Area_well.f k a0_0 a0_1 a0_2 a0_3 = some false) :
    Calls Tryd.prog 35 #[.agg #[.int .i64 a0_0, .int .i64 a0_1, .int .i64 a0_2, .int .i64 a0_3], .int .i64 a1] w fun e w' => ∃ v0_ : Value, e = .returned (v0_) ∧ Kd.R k51 51 w' w.heap.size (fun _ => True) v0_ [] ∧ Below w.heap.size w w' := by
  have hu41 := Tryd.underlying41
  refine (callsIn_wide (n := 3)).1 ?_
  refine callsIn_of_wp Tryd.func35 rfl trivial ?_ rfl
  simp only [Tryd.ntmps35, List.size_toArray, List.length_cons, List.length_nil, Nat.reduceAdd, Nat.reduceSub, Array.replicate_succ, Array.replicate_zero, List.push_toArray, List.append_toArray, List.nil_append, List.cons_append]
  have HW := Lib.hid hwell
  clear hwell
  obtain ⟨ar, har⟩ : ∃ ar : Array Value, ar = #[.int .i64 a0_0, .int .i64 a0_1, .int .i64 a0_2, .int .i64 a0_3] := ⟨_, rfl⟩
  have hB0 : Below w.heap.size w ((w.alloc (.cells ar 41)).alloc (.cells #[.int .i64 a1] 3)) := ((Below.refl _ w).alloc (Nat.le_refl _) _).alloc (by simp) _
  rw [har] at hB0
  clear har
  gi_wp2_with (refine ⟨trivial, ?_⟩; gi_at_call 85; refine (callsIn_wide.2 (addr_Area_well.calls k a0_0 a0_1 a0_2 a0_3 false _ HW.out)).mono ?_; rintro e w1 ⟨rfl, hb⟩)
  go_ret
  exact ⟨_, rfl, Kd.R_nil _ _ _ _ _, hB0.trans (hb.mono (by simp; omega))⟩
theorem addr_Area_Cells.calls (k : Nat) (a0_0 a0_1 a0_2 a0_3 a1 : Int) (r : List S51) (w : World) (h : addr_Area_Cells.f k a0_0 a0_1 a0_2 a0_3 a1 = some r) :
    Calls Tryd.prog 35 #[.agg #[.int .i64 a0_0, .int .i64 a0_1, .int .i64 a0_2, .int .i64 a0_3], .int .i64 a1] w fun e w' => ∃ v0_ : Value, e = .returned (v0_) ∧ Kd.R k51 51 w' w.heap.size (fun _ => True) v0_ r ∧ Below w.heap.size w w' := by
  unfold addr_Area_Cells.f at h
  obtain ⟨b, hb, h2⟩ := Option.bind_eq_some_iff.mp h
  cases b with
  | false =>
    obtain rfl := Option.some.inj ((if_neg (by decide)).symm.trans h2)
    exact addr_Area_Cells.none k _ _ _ _ _ w hb
  | true =>
    replace h2 := (if_pos rfl).symm.trans h2
    split at h2
    · rename_i hh
      obtain ⟨h1, h2', h3, h4, h5, h6⟩ := hh
      obtain rfl := Option.some.inj h2
      exact Hcells.main k _ _ _ _ _ w hb h1 h2' h3 h4 h5 h6
    · cases h2
end Go.Proofs.YtcdcijhfjiahkaaDoorR.A
