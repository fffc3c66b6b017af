/- slices.Backward at abacist/nat.limbs: the iterator's contract: the indexes come from the last one down, each with its element. -/
import Derived.RangeFuncNested
import Derived.RangeFuncBound
import Derived.RangeFuncCalls
import Derived.RangeFuncLeaves
import Derived.RangeFuncBox
import Derived.Shelf.Abstract
import Derived.Shelf.RegionOpen
import Derived.WalkKit
import Derived.OwnWalkIn
import Derived.TacticsInMore
import Derived.LoopNIn
import Derived.LoopIn
import Derived.KernelRfl
import Derived.Lib.Hide
import Derived.Test.YtcdcijhfjiahkaaDoorRKW
import Derived.Test.YtcdcijhfjiahkaaDoorRProg
namespace Go.Proofs.YtcdcijhfjiahkaaDoorR.BwNat
open Go.RowKit Go.Shelf
open Go.Proofs.YtcdcijhfjiahkaaDoorR.K (rd ReadsInt)
attribute [local go_sem] Oper.semAt_some

/-- What has come when m are still to come. -/
def came (n m : Nat) : List (Fin n) := ((List.finRange n).drop m).reverse
theorem came_top (n : Nat) : came n n = [] := by simp [came]
theorem came_all (n : Nat) : came n 0 = (List.finRange n).reverse := by simp [came]
theorem came_length (n m : Nat) : (came n m).length = n - m := by simp [came]
theorem came_next (n m : Nat) (h : m < n) : came n m = came n (m + 1) ++ [⟨m, h⟩] := by
  unfold came
  rw [List.drop_eq_getElem_cons (by simpa using h)]
  simp

theorem mem_came {n m j : Nat} (hm : m ≤ j) (hj : j < n) : (⟨j, hj⟩ : Fin n) ∈ came n m := by
  unfold came
  rw [List.mem_reverse, List.mem_drop_iff_getElem]
  exact ⟨j - m, by simp; omega, by simp; omega⟩

/-- What a round that goes on keeps: some blocks. -/
def Keeps (keep : Nat → Prop) (A B : World) : Prop := ∀ k, keep k → B.heap[k]? = A.heap[k]?
theorem Keeps.refl (keep : Nat → Prop) (A : World) : Keeps keep A A := fun _ _ => rfl
theorem Keeps.trans {keep : Nat → Prop} {A B C : World} (h : Keeps keep A B) (k : Keeps keep B C) : Keeps keep A C := fun i hi => (k i hi).trans (h i hi)
theorem Keeps.b {keep : Nat → Prop} {w : World} (hk : ∀ k, keep k → k < w.heap.size) (W : World) (l : Nat) (o o' : Obj) (hl : w.heap.size ≤ l) (_ : W.heap[l]? = some o) (_ : o.isCells = false) (_ : o.isWalk = false) : Keeps keep W (W.putObj l o') :=
  fun k h => World.putObj_heap_other (by have := hk k h; omega)
theorem Keeps.of_below {keep : Nat → Prop} {B : Nat} {A W : World} (h : Below B A W) (hk : ∀ k, keep k → k < B) : Keeps keep A W := fun k hkk => h.block k (hk k hkk)
/-- The captured slice, and its elements, wherever those blocks lie as they lay. -/
def Reads (keep : Nat → Prop) (w : World) (Bs : Nat) (A : Option Addr) (c : Nat) (zs : List Int) : Prop :=
  ∀ W, Keeps keep w W → W.cell? ⟨Bs, 0, none⟩ = some (.slice A zs.length c) ∧ ReadsInt W .u32 A zs.length zs

set_option maxRecDepth 100000 in
set_option maxHeartbeats 2000000 in
theorem round_in (F : Fence) (n : Nat) (hf : F.fn 126) (hro : F.round = none) (hn : 1 ≤ n) (l Bs c : Nat) (A : Option Addr) (zs : List Int) (hreach : zs.length ≤ 9223372036854775807) (keep : Nat → Prop) (w : World) (hR : Reads keep w Bs A c zs) (J Jx : List (Fin zs.length) → World → Prop)
    (hY : ∀ pre x W, J pre W → pre.length < zs.length → YieldAt F (n - 1) Tryd.prog l #[.int .i64 (x.val : Int), .int .u32 (rd zs (x.val : Int))] W fun e W' =>
      (e = .returned (.bool true) ∧ J (pre ++ [x]) W' ∧ Keeps keep W W') ∨ (e = .returned (.bool false) ∧ Jx (pre ++ [x]) W'))
    (W : World) (hW : Keeps keep w W) (h0 : J [] W) :
    CallsIn F n Tryd.prog 126 #[.func (.yield l) #[] #[], .pointer (some ⟨Bs, 0, none⟩)] W fun e W' => (∃ v, e = .returned v) ∧
      ((∃ ys, ys = came zs.length 0 ∧ J ys W') ∨ (∃ pre, (∃ m, m ≤ zs.length ∧ pre = came zs.length m) ∧ Jx pre W')) := by
  refine callsIn_of_wp Tryd.func126 rfl hf ?_ hro
  simp only [Tryd.ntmps126, List.size_toArray, List.length_cons, List.length_nil, Nat.reduceAdd, Nat.reduceSub, Array.replicate_succ, Array.replicate_zero, List.push_toArray, List.append_toArray, List.nil_append, List.cons_append]
  obtain ⟨len, hlen⟩ : ∃ m, m = zs.length := ⟨_, rfl⟩
  have hBs := (hR W hW).1
  rw [← hlen] at hBs hreach
  have HL := Lib.hid hlen
  clear hlen
  gi_wp2
  gi_loopw [3] (fun v wr => ∃ i : Int, -1 ≤ i ∧ i < len ∧ v = .int .i64 i ∧ J (came zs.length (i + 1).toNat) wr ∧ Keeps keep w wr)
    (fun v _ => (intOf v + 1).toNat)
  case atStart => exact ⟨(len : Int) - 1, by omega, by omega, rfl, by rw [show ((len : Int) - 1 + 1).toNat = zs.length by rw [← HL.out]; omega, came_top]; exact h0, hW⟩
  case round =>
    obtain ⟨i, hi1, hi2, rfl, hJs, hnx⟩ := hrel
    by_cases hp : 0 ≤ i
    · obtain ⟨q, rfl⟩ := Int.eq_ofNat_of_zero_le hp
      have hq0 : q < zs.length := by rw [← HL.out]; omega
      have hq : q < len := by omega
      obtain ⟨hBs', hC⟩ := hR wr hnx
      rw [← HL.out] at hBs'
      obtain ⟨ad, rfl, hcx⟩ := K.ReadsInt.at_ hC (q : Int) (by omega) (by omega)
      replace hcx : wr.cell? (ad.add q) = some (.int .u32 (rd zs (q : Int))) := hcx
      rw [show ((q : Int) + 1).toNat = q + 1 by omega] at hJs
      obtain ⟨fn, tmps, assign, body, hy, hR1⟩ := hY _ ⟨q, hq0⟩ wr hJs (by rw [came_length]; omega)
      dsimp only at hy
      clear hBs hC
      gi_wp2
      refine hR1.mono ?_
      rintro e W3 (⟨rfl, hJ3, hk3⟩ | ⟨rfl, hJx3⟩)
      · gi_wp2
        go_roundw
        case rel => exact ⟨(q : Int) - 1, by omega, by omega, rfl, by rw [show ((q : Int) - 1 + 1).toNat = q by omega, came_next zs.length q hq0]; exact hJ3, hnx.trans hk3⟩
        case measure => simp [intOf]
      · gi_wp2
        refine bodyPost_ret (results_none rfl _ _ _) rfl ?_
        exact ⟨⟨_, rfl⟩, .inr ⟨_, ⟨q, by omega, (came_next zs.length q hq0).symm⟩, hJx3⟩⟩
    · obtain rfl : i = -1 := by omega
      gi_wp2
      go_end0
      exact ⟨⟨_, rfl⟩, .inl hJs⟩

set_option maxHeartbeats 1000000 in
theorem backward_in (F : Fence) (n : Nat) (hf : F.fn 108) (hro : F.round = none) (a : Option Addr) (len cap : Nat) (w : World) :
    CallsIn F n Tryd.prog 108 #[.slice a len cap] w fun e w' => e = .returned (.func (.func 126) #[] #[.pointer (some ⟨w.heap.size, 0, none⟩)]) ∧ w' = w.alloc (.cells #[.slice a len cap] 82) := by
  refine callsIn_of_wp Tryd.func108 rfl hf ?_ hro
  simp only [Tryd.ntmps108, List.size_toArray, List.length_cons, List.length_nil, Nat.reduceAdd, Nat.reduceSub, Array.replicate_succ, Array.replicate_zero, List.push_toArray, List.append_toArray, List.nil_append, List.cons_append]
  gi_wp2
  go_ret
  exact ⟨rfl, rfl⟩

/-- All indexes, from the last one down; or the first of them. -/
theorem stops (F : Fence) (n : Nat) (hf : F.fn 126) (hro : F.round = none) (hn : 1 ≤ n) (Bs c : Nat) (A : Option Addr) (zs : List Int) (hreach : zs.length ≤ 9223372036854775807) (keep : Nat → Prop) (w : World) (hk : ∀ k, keep k → k < w.heap.size) (hR : Reads keep w Bs A c zs) :
    SeqStopsK F n Tryd.prog 126 #[.pointer (some ⟨Bs, 0, none⟩)] (fun x : Fin zs.length => #[Value.int .i64 (x.val : Int), Value.int .u32 (rd zs (x.val : Int))]) (Keeps keep) (fun ys => ys = came zs.length 0)
      (fun pre => ∃ m, m ≤ zs.length ∧ pre = came zs.length m) zs.length w := fun l J Jx W hW _ _ hY h0 =>
  round_in F n hf hro hn l Bs c A zs hreach keep w hR J Jx hY W (Keeps.of_below hW hk) h0
end Go.Proofs.YtcdcijhfjiahkaaDoorR.BwNat
