/- (addr.Area).each: the iterator's contract: the cells row by row, each with its column and its row. -/
import Derived.RangeFuncNested
import Derived.RangeFuncBound
import Derived.RangeFuncCalls
import Derived.RangeFuncLeaves
import Derived.RangeFuncBox
import Derived.Shelf.Abstract
import Derived.Shelf.RegionOpen
import Derived.WalkKit
import Derived.OwnWalkIn
import Derived.TacticsInMore
import Derived.LoopNIn
import Derived.LoopIn
import Derived.KernelRfl
import Derived.Lib.Hide
import Derived.Test.YtcdcijhfjiahkaaDoorRWWords
import Derived.Test.YtcdcijhfjiahkaaDoorRProg
namespace Go.Proofs.YtcdcijhfjiahkaaDoorR.Each
open Go.RowKit Go.Shelf Go.Proofs.YtcdcijhfjiahkaaDoorRW.PrintWords
attribute [local go_sem] Oper.semAt_some
set_option linter.unusedVariables false
set_option linter.unusedSimpArgs false

def rowOf (c r : Int) (m : Nat) : List (Int × Int) := (List.range m).map fun (j : Nat) => (c + j, r)
def upto (c r : Int) (wd n : Nat) : List (Int × Int) := (List.range n).flatMap fun (i : Nat) => rowOf c (r + i) wd
def came (c r : Int) (wd n m : Nat) : List (Int × Int) := upto c r wd n ++ rowOf c (r + n) m
theorem came_zero (c r : Int) (wd : Nat) : came c r wd 0 0 = [] := rfl
theorem came_next (c r : Int) (wd n m : Nat) : came c r wd n (m + 1) = came c r wd n m ++ [(c + m, r + n)] := by
  unfold came rowOf
  rw [List.range_succ, List.map_append, List.append_assoc]
  rfl
theorem came_row (c r : Int) (wd n : Nat) : came c r wd (n + 1) 0 = came c r wd n wd := by
  unfold came upto
  rw [List.range_succ, List.flatMap_append]
  simp [rowOf]
theorem came_length (c r : Int) (wd n m : Nat) : (came c r wd n m).length = n * wd + m := by
  unfold came
  rw [List.length_append]
  congr 1
  · unfold upto
    induction n with
    | zero => simp
    | succ n ih => rw [List.range_succ, List.flatMap_append, List.length_append, ih, Nat.succ_mul]; simp [rowOf]
  · simp [rowOf]

def Keeps (keep : Nat → Prop) (A B : World) : Prop := ∀ k, keep k → B.heap[k]? = A.heap[k]?
theorem Keeps.refl (keep : Nat → Prop) (A : World) : Keeps keep A A := fun _ _ => rfl
theorem Keeps.trans {keep : Nat → Prop} {A B C : World} (h : Keeps keep A B) (k : Keeps keep B C) : Keeps keep A C := fun i hi => (k i hi).trans (h i hi)
theorem Keeps.b {keep : Nat → Prop} {w : World} (hk : ∀ k, keep k → k < w.heap.size) (W : World) (l : Nat) (o o' : Obj) (hl : w.heap.size ≤ l) (_ : W.heap[l]? = some o) (_ : o.isCells = false) (_ : o.isWalk = false) : Keeps keep W (W.putObj l o') :=
  fun k h => World.putObj_heap_other (by have := hk k h; omega)
theorem Keeps.of_below {keep : Nat → Prop} {B : Nat} {A W : World} (h : Below B A W) (hk : ∀ k, keep k → k < B) : Keeps keep A W := fun k hkk => h.block k (hk k hkk)
/-- The captured area, wherever its block lies as it lay. -/
def Reads (keep : Nat → Prop) (w : World) (Bs : Nat) (c1 r1 c2 r2 : Int) : Prop :=
  ∀ W, Keeps keep w W → W.heap[Bs]? = some (.cells #[.int .i64 c1, .int .i64 r1, .int .i64 c2, .int .i64 r2] 41 (0, 0))

set_option maxRecDepth 100000 in
set_option maxHeartbeats 2000000 in
theorem round_in (F : Fence) (n : Nat) (hf : F.fn 114) (hro : F.round = none) (hn : 1 ≤ n) (l Bs : Nat) (c1 r1 c2 r2 : Int) (hc1 : 1 ≤ c1) (hc2 : c1 ≤ c2) (hc3 : c2 ≤ 52) (hr1 : 1 ≤ r1) (hr2 : r1 ≤ r2) (hr3 : r2 ≤ 99)
    (keep : Nat → Prop) (w : World) (hR : Reads keep w Bs c1 r1 c2 r2) (J Jx : List (Int × Int) → World → Prop)
    (hY : ∀ pre x W, J pre W → pre.length < 5148 → YieldAt F (n - 1) Tryd.prog l #[.int .i64 x.1, .int .i64 x.2] W fun e W' =>
      (e = .returned (.bool true) ∧ J (pre ++ [x]) W' ∧ Keeps keep W W') ∨ (e = .returned (.bool false) ∧ Jx (pre ++ [x]) W'))
    (W : World) (hW : Keeps keep w W) (h0 : J [] W) :
    CallsIn F n Tryd.prog 114 #[.func (.yield l) #[] #[], .pointer (some ⟨Bs, 0, none⟩)] W fun e W' => (∃ v, e = .returned v) ∧
      ((∃ ys, ys = came c1 r1 (c2 - c1 + 1).toNat (r2 - r1 + 1).toNat 0 ∧ J ys W') ∨ (∃ pre, True ∧ Jx pre W')) := by
  refine callsIn_of_wp Tryd.func114 rfl hf ?_ hro
  simp only [Tryd.ntmps114, List.size_toArray, List.length_cons, List.length_nil, Nat.reduceAdd, Nat.reduceSub, Array.replicate_succ, Array.replicate_zero, List.push_toArray, List.append_toArray, List.nil_append, List.cons_append]
  have hB0 := hR W hW
  have q0 : ∀ {V : World}, V.heap[Bs]? = some (.cells #[.int .i64 c1, .int .i64 r1, .int .i64 c2, .int .i64 r2] 41 (0, 0)) → V.cell? ⟨Bs, 0, none⟩ = some (.int .i64 c1) ∧ V.cell? ⟨Bs, 1, none⟩ = some (.int .i64 r1) ∧ V.cell? ⟨Bs, 2, none⟩ = some (.int .i64 c2) ∧ V.cell? ⟨Bs, 3, none⟩ = some (.int .i64 r2) :=
    fun h => by simp [World.cell?, h]
  obtain ⟨g0, g1, g2, g3⟩ := q0 hB0
  gi_wp2
  gi_loopw [3] (fun v wr => ∃ i : Nat, (i : Int) ≤ r2 - r1 + 1 ∧ v = .int .i64 (r1 + i) ∧ J (came c1 r1 (c2 - c1 + 1).toNat i 0) wr ∧ Keeps keep w wr)
    (fun v _ => (100 - intOf v).toNat)
  case atStart => exact ⟨0, by omega, by simp, h0, hW⟩
  case round =>
    obtain ⟨i, hi, rfl, hJs, hnx⟩ := hrel
    obtain ⟨g0, g1, g2, g3⟩ := q0 (hR wr hnx)
    by_cases hp : r1 + (i : Int) ≤ r2
    · gi_wp2
      gi_loopw [4] (fun v wr2 => ∃ j : Nat, (j : Int) ≤ c2 - c1 + 1 ∧ v = .int .i64 (c1 + j) ∧ J (came c1 r1 (c2 - c1 + 1).toNat i j) wr2 ∧ Keeps keep w wr2)
        (fun v _ => (100 - intOf v).toNat)
      case atStart => exact ⟨0, by omega, by simp, hJs, hnx⟩
      case round =>
        obtain ⟨j, hj, rfl, hJ2, hnx2⟩ := hrel
        obtain ⟨g0', g1', g2', g3'⟩ := q0 (hR _ hnx2)
        clear g0 g1 g2 g3
        by_cases hq : c1 + (j : Int) ≤ c2
        · obtain ⟨fn, tmps, assign, body, hy, hR1⟩ := hY _ (c1 + (j : Int), r1 + (i : Int)) _ hJ2 (by
            rw [came_length]
            have h1 : i * (c2 - c1 + 1).toNat ≤ 98 * 52 := Nat.mul_le_mul (by omega) (by omega)
            omega)
          dsimp only at hy
          gi_wp2
          refine hR1.mono ?_
          rintro e W3 (⟨rfl, hJ3, hk3⟩ | ⟨rfl, hJx3⟩)
          · gi_wp2
            go_roundw
            case rel => exact ⟨j + 1, by omega, by simp; omega, by rw [came_next]; exact hJ3, hnx2.trans hk3⟩
            case measure => simp [intOf]; omega
          · gi_wp2
            refine bodyPost_ret (results_none rfl _ _ _) rfl ?_
            exact ⟨⟨_, rfl⟩, .inr ⟨_, trivial, hJx3⟩⟩
        · have hje : j = (c2 - c1 + 1).toNat := by omega
          gi_wp2
          go_roundw
          case rel => exact ⟨i + 1, by omega, by simp; omega, by have h := hJ2; rw [hje] at h; rw [came_row]; exact h, hnx2⟩
          case measure => simp [intOf]; omega
    · have hie : i = (r2 - r1 + 1).toNat := by omega
      gi_wp2
      go_end0
      exact ⟨⟨_, rfl⟩, .inl (by rw [← hie]; exact hJs)⟩

set_option maxHeartbeats 1000000 in
theorem each_in (F : Fence) (n : Nat) (hf : F.fn 86) (hro : F.round = none) (c1 r1 c2 r2 : Int) (w : World) :
    CallsIn F n Tryd.prog 86 #[.agg #[.int .i64 c1, .int .i64 r1, .int .i64 c2, .int .i64 r2]] w fun e w' => e = .returned (.func (.func 114) #[] #[.pointer (some ⟨w.heap.size, 0, none⟩)]) ∧ w' = w.alloc (.cells #[.int .i64 c1, .int .i64 r1, .int .i64 c2, .int .i64 r2] 41) := by
  refine callsIn_of_wp Tryd.func86 rfl hf ?_ hro
  simp only [Tryd.ntmps86, List.size_toArray, List.length_cons, List.length_nil, Nat.reduceAdd, Nat.reduceSub, Array.replicate_succ, Array.replicate_zero, List.push_toArray, List.append_toArray, List.nil_append, List.cons_append]
  gi_wp2
  go_ret
  exact ⟨rfl, rfl⟩

/-- All cells, row by row; or the first of them. -/
theorem stops (F : Fence) (n : Nat) (hf : F.fn 114) (hro : F.round = none) (hn : 1 ≤ n) (Bs : Nat) (c1 r1 c2 r2 : Int) (hc1 : 1 ≤ c1) (hc2 : c1 ≤ c2) (hc3 : c2 ≤ 52) (hr1 : 1 ≤ r1) (hr2 : r1 ≤ r2) (hr3 : r2 ≤ 99) (keep : Nat → Prop) (w : World) (hk : ∀ k, keep k → k < w.heap.size) (hR : Reads keep w Bs c1 r1 c2 r2) :
    SeqStopsK F n Tryd.prog 114 #[.pointer (some ⟨Bs, 0, none⟩)] (fun x : Int × Int => #[Value.int .i64 x.1, Value.int .i64 x.2]) (Keeps keep) (fun ys => ys = came c1 r1 (c2 - c1 + 1).toNat (r2 - r1 + 1).toNat 0)
      (fun _ => True) 5148 w := fun l J Jx W hW _ _ hY h0 =>
  round_in F n hf hro hn l Bs c1 r1 c2 r2 hc1 hc2 hc3 hr1 hr2 hr3 keep w hR J Jx hY W (Keeps.of_below hW hk) h0
end Go.Proofs.YtcdcijhfjiahkaaDoorR.Each
