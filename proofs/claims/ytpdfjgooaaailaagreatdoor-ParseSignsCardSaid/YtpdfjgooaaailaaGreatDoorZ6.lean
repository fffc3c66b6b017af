/- Part 6 of the proof: the machine, the tables and the pure laws that the last text joins. -/
import Derived.Test.YtpdfjgooaaailaaGreatDoorZ5
import Derived.RangeFuncNested
import Derived.RangeFuncBound
import Derived.RangeFuncCalls
import Derived.RangeFuncLeaves
import Derived.RangeFuncBox
import Derived.Shelf.Abstract
import Derived.Shelf.RegionOpen
import Derived.WalkKit
import Derived.OwnWalkIn
import Derived.TacticsInMore
import Derived.LoopNIn
import Derived.LoopIn
import Derived.KernelRfl
import Derived.Lib.Hide
import Derived.Test.YtpdfjgooaaailaaGreatDoorProg
import Derived.Maps.AppendAt
import Derived.BigRegionIn
import Derived.Lib.BitFns
import Derived.Lib.ItoaNum
import Derived.Laws.BitsLemmas
set_option linter.unusedVariables false
set_option linter.unusedSimpArgs false
namespace Go.Proofs.YtpdfjgooaaailaaGreatDoor.H
open Go Go.RowKit Go.Shelf Go.Proofs.YtpdfjgooaaailaaGreatDoor.BwNat
open Go.Proofs.YtpdfjgooaaailaaGreatDoor.K (Ty den rd nums nums_append add_plain ReadsInt own_base own_string Nums unSl bytesOf unCons slDen ret_str ret_int ret_sl str_bytes RetT CallT retT_plain denInt denStr cond_some)
attribute [local go_sem] Oper.semAt_some
def cmpFrom (l m : List Int) : Nat → Int
  | 0 => 0
  | k + 1 => if rd l (k : Int) = rd m (k : Int) then cmpFrom l m k else if rd l (k : Int) > rd m (k : Int) then 1 else -1
def cmpF (y : List Int × List Int) : Option Int := cond (decide (y.1.length ≤ 9223372036854775807) && decide (y.2.length ≤ 9223372036854775807)) (some (if y.1.length = y.2.length then cmpFrom y.1 y.2 y.1.length else if y.1.length > y.2.length then 1 else -1)) none
namespace Hcmp
theorem sign_t (b : Bool) (w : World) : Calls Tryz.prog 202 #[.bool b] w fun e w' => e = .returned (.int .i64 (if b then 1 else -1)) ∧ w = w' := by
  cases b
  all_goals
    go_enter Tryz.func202, Tryz.ntmps202
    go_wp2
    go_ret
    exact ⟨rfl, rfl⟩
theorem from_eq (l m : List Int) (n k : Nat) (hk : k ≤ n) (h : ∀ j, k ≤ j → j < n → rd l (j : Int) = rd m (j : Int)) : cmpFrom l m n = cmpFrom l m k := by
  induction n with
  | zero => obtain rfl : k = 0 := by omega
            rfl
  | succ n ih =>
    by_cases e : k = n + 1
    · rw [e]
    · rw [cmpFrom, if_pos (h n (by omega) (by omega))]
      exact ih (by omega) (fun j h1 h2 => h j h1 (by omega))
theorem from_ne (l m : List Int) (n k : Nat) (hk : k < n) (h : ∀ j, k < j → j < n → rd l (j : Int) = rd m (j : Int)) (hne : rd l (k : Int) ≠ rd m (k : Int)) :
    cmpFrom l m n = if decide (rd l (k : Int) > rd m (k : Int)) = true then 1 else -1 := by
  rw [from_eq l m n (k + 1) hk (fun j h1 h2 => h j (by omega) h2), cmpFrom, if_neg hne]
  simp
def Left (l0 l1 : List Int) (B : Nat) (pre : List (Fin l0.length)) (W : World) : Prop :=
  ∃ ini last, pre = ini ++ [last] ∧ (∀ x ∈ ini, rd l0 (x.val : Int) = rd l1 (x.val : Int)) ∧ rd l0 (last.val : Int) ≠ rd l1 (last.val : Int) ∧ W.cell? ⟨B, 0, none⟩ = some (.int .i64 (if decide (rd l0 (last.val : Int) > rd l1 (last.val : Int)) = true then 1 else -1))
theorem Left.mk {l0 l1 : List Int} {B : Nat} {pre : List (Fin l0.length)} {W : World} {x : Nat} (hx : x < l0.length) (hp : ∀ x ∈ pre, rd l0 (x.val : Int) = rd l1 (x.val : Int)) (hne : rd l0 (x : Int) ≠ rd l1 (x : Int)) {u : Value} (hc : W.cell? ⟨B, 0, none⟩ = some u) (v : Int)
    (hv : v = if decide (rd l0 (x : Int) > rd l1 (x : Int)) = true then 1 else -1) : Left l0 l1 B (pre ++ [⟨x, hx⟩]) (W.setCell ⟨B, 0, none⟩ (.int .i64 v)) :=
  ⟨pre, ⟨x, hx⟩, rfl, hp, hne, by rw [hv]; exact World.cell?_setCell_same' _ _ _ (by rw [hc]; rfl)⟩
set_option maxRecDepth 100000 in
set_option maxHeartbeats 4000000 in
theorem same (A0 : Option Addr) (c0 : Nat) (l0 : List Int) (A1 : Option Addr) (c1 : Nat) (l1 : List Int) (w : World) (S : Nat → Prop) (hS : ∀ b, S b → b < w.heap.size) (hr0 : Nums w.heap S .u32 A0 l0) (hr1 : Nums w.heap S .u32 A1 l1) (hm0 : l0.length ≤ 9223372036854775807) (hl : l0.length = l1.length) :
    Calls Tryz.prog 159 #[.slice A0 l0.length c0, .slice A1 l1.length c1] w fun e w' => e = .returned (.int .i64 (cmpFrom l0 l1 l0.length)) ∧ Below w.heap.size w w' := by
  have hBl : (((l0.length : Int)) != ((l1.length : Int))) = false := by simp [hl]
  obtain ⟨n1, hn1⟩ : ∃ n, n = l1.length := ⟨_, rfl⟩
  rw [← hn1] at hl hBl ⊢
  refine (callsIn_wide (n := 3)).1 ?_
  refine callsIn_of_wp_marks Tryz.func159 rfl trivial ?_ rfl
  simp only [Tryz.ntmps159, List.size_toArray, List.length_cons, List.length_nil, Nat.reduceAdd, Nat.reduceSub, Array.replicate_succ, Array.replicate_zero, List.push_toArray, List.append_toArray, List.nil_append, List.cons_append]
  have hl' := Lib.hid hl
  have hn1' := Lib.hid hn1
  clear hl hn1
  gi_wp2_with (refine ⟨trivial, ?_⟩; gi_at_call 203; refine (backward_in Fence.wide (3 - 1) trivial rfl _ _ _ _).mono ?_; rintro e w' ⟨rfl, rfl⟩)
  have bM := (Boxed.new w 166 (.slice A1 n1 c1))
  have bR := Boxed.new (w.alloc (.cells #[.slice A1 n1 c1] 166)) 3 (.int .i64 0)
  have bS := Boxed.new ((w.alloc (.cells #[.slice A1 n1 c1] 166)).alloc (.cells #[.int .i64 0] 3)) 166 (.slice A0 l0.length c0)
  rw [World.size_alloc] at bR
  rw [World.size_alloc, World.size_alloc] at bS
  replace bM := (bM.alloc (.cells #[.int .i64 0] 3)).alloc (.cells #[.slice A0 l0.length c0] 166)
  replace bR := bR.alloc (.cells #[.slice A0 l0.length c0] 166)
  have hB0 : Below w.heap.size w (((w.alloc (.cells #[.slice A1 n1 c1] 166)).alloc (.cells #[.int .i64 0] 3)).alloc (.cells #[.slice A0 l0.length c0] 166)) := (((Below.refl _ w).alloc (Nat.le_refl _) _).alloc (by simp) _).alloc (by simp; omega) _
  obtain ⟨W0, hW0⟩ : ∃ W0, (((w.alloc (.cells #[.slice A1 n1 c1] 166)).alloc (.cells #[.int .i64 0] 3)).alloc (.cells #[.slice A0 l0.length c0] 166)) = W0 := ⟨_, rfl⟩
  have hsz : W0.heap.size = w.heap.size + 3 := by rw [← hW0]; simp
  rw [hW0] at bM bR bS hB0 ⊢
  clear hW0
  obtain ⟨keep, hkeep⟩ : ∃ keep : Nat → Prop, keep = fun k => k < w.heap.size ∨ k = w.heap.size + 2 := ⟨_, rfl⟩
  have hkb : ∀ k, keep k → k < W0.heap.size := by rw [hkeep]; intro k hk; rcases hk with h | h <;> omega
  have hRd : BwNat.Reads keep W0 (w.heap.size + 2) A0 c0 l0 := by
    intro W hW
    refine ⟨Boxed.cell ((hW _ (by rw [hkeep]; exact .inr rfl)).trans bS), ?_⟩
    refine K.Nums.reads (S := S) (K.Nums.mono hr0 fun b hb => ⟨hb, ?_⟩) hm0
    rw [hW b (by rw [hkeep]; exact .inl (hS b hb))]
    exact hB0.block b (hS b hb)
  have hkr : ¬ keep (w.heap.size + 1) := by rw [hkeep]; omega
  clear hkeep
  refine wpIn_rangeFunc_ownG (F := Fence.wide) (n := 3) rfl (by omega) (gf := 224) (lb := #[.pointer (some ⟨w.heap.size + 2, 0, none⟩)]) rfl trivial (enters_of Tryz.func224 (by kernel_rfl) rfl)
    (BwNat.stops Fence.wide (3 - 1) trivial rfl (by omega) (w.heap.size + 2) c0 A0 l0 hm0 keep W0 hkb hRd) BwNat.Keeps.trans (BwNat.Keeps.b hkb) (Below.refl _ _) (fun _ => rfl)
    (fun pre W => ((∀ x ∈ pre, rd l0 (x.val : Int) = rd l1 (x.val : Int)) ∧ (W.cell? ⟨w.heap.size + 1, 0, none⟩ = some (.int .i64 0) ∧ W.frozen? ⟨w.heap.size + 1, 0, none⟩ = false) ∧ W.cell? ⟨w.heap.size, 0, none⟩ = some (.slice A1 n1 c1)) ∧ Below w.heap.size w W)
    (fun c pre W => (c = .ret ∧ Left l0 l1 (w.heap.size + 1) pre W) ∧ Below w.heap.size w W)
    (OwnFrom.and (Own.from (fun s A B row hs hg hr => ⟨hs.1, ⟨cell_kept hs.2.1.1 hg hr, (frozen_kept hs.2.1.1 hg hr).trans hs.2.1.2⟩, cell_kept hs.2.2 hg hr⟩) _) (ownFrom_below (Nat.le_refl _) (by omega)))
    (fun c => OwnFrom.and (Own.from (fun s A B row hs hg hr => ⟨hs.1, by obtain ⟨ini, last, e1, e2, e3, e4⟩ := hs.2; exact ⟨ini, last, e1, e2, e3, cell_kept e4 hg hr⟩⟩) _) (ownFrom_below (Nat.le_refl _) (by omega)))
    ⟨⟨by simp, ⟨bR.cell, bR.frozen⟩, bM.cell⟩, hB0⟩
    ?a1 ?assign ?body ?done ?stop
  case assign =>
    intro l x W K hK
    gi_wp2
    exact hK
  case body =>
    rintro l pre x W ⟨⟨hp, ⟨hcr, hfr⟩, hcm⟩, hB⟩ _
    obtain ⟨x, hx⟩ := x
    have hx1 : x < n1 := by rw [← hl'.out]; exact hx
    obtain ⟨ad, rfl, hcx⟩ := K.ReadsInt.at_ (K.Nums.reads (S := S) (K.Nums.mono hr1 fun b hb => ⟨hb, hB.block b (hS b hb)⟩) (by have := hl'.out; have := hn1'.out; omega)) (x : Int) (by omega) (by have := hn1'.out; omega)
    replace hcx : W.cell? (ad.add x) = some (.int .u32 (rd l1 (x : Int))) := hcx
    dsimp only
    by_cases he : rd l0 (x : Int) = rd l1 (x : Int)
    · have hne : ((rd l0 (x : Int)) != (rd l1 (x : Int))) = false := by simp [he]
      have he' := Lib.hid he
      clear he
      gi_wp2
      exact ⟨KeepsFrom.refl _ _, Keeps.refl _ _, ⟨fun y hy => (List.mem_append.1 hy).elim (hp y) (fun e => by simp at e; subst e; exact he'.out), ⟨hcr, hfr⟩, hcm⟩, hB⟩
    · have hne : ((rd l0 (x : Int)) != (rd l1 (x : Int))) = true := by simp [he]
      by_cases hgt : rd l0 (x : Int) > rd l1 (x : Int)
      · have hg1 : decide (rd l1 (x : Int) < rd l0 (x : Int)) = true := decide_eq_true hgt
        gi_wp2_with (refine ⟨trivial, ?_⟩; gi_at_call 202; refine (CallsIn.inRound l (callsIn_wide.2 (sign_t _ _))).mono ?_; rintro e w' ⟨rfl, rfl⟩)
        exact ⟨(KeepsOthers.setCell _ _ _).from _, ⟨rfl, Left.mk hx hp he hcr 1 (by simp [hgt])⟩, hB.setCell (p := ⟨w.heap.size + 1, 0, none⟩) (by simp) _⟩
      · have hg1 : decide (rd l1 (x : Int) < rd l0 (x : Int)) = false := decide_eq_false hgt
        gi_wp2_with (refine ⟨trivial, ?_⟩; gi_at_call 202; refine (CallsIn.inRound l (callsIn_wide.2 (sign_t _ _))).mono ?_; rintro e w' ⟨rfl, rfl⟩)
        exact ⟨(KeepsOthers.setCell _ _ _).from _, ⟨rfl, Left.mk hx hp he hcr (-1) (by simp [hgt])⟩, hB.setCell (p := ⟨w.heap.size + 1, 0, none⟩) (by simp) _⟩
  case done =>
    rintro D ys W hD rfl ⟨⟨hne, ⟨hcr, hfr⟩, hcm⟩, hB⟩ hK
    gi_wp2
    have hK' := (KeepsOthers.setCell W ⟨w.heap.size + 1, 0, none⟩ (.int .i64 0)).same D _ hK rfl
    refine ⟨by simp, .inl ⟨_, _, rfl, run_takeDeferred hK', ?_⟩⟩
    have hc5 := cell_kept (World.cell?_setCell_same' W ⟨w.heap.size + 1, 0, none⟩ (.int .i64 0) (by rw [hcr]; rfl)) (grownBy_putObj' _ D (.deferred none)) (fun r e => by cases e; exact ⟨_, hK', rfl⟩)
    have hz : cmpFrom l0 l1 l0.length = 0 := by
      rw [from_eq l0 l1 l0.length 0 (by omega) (fun j h1 h2 => hne ⟨j, h2⟩ (by rw [came_all]; simp))]; rfl
    refine ⟨.int .i64 0, ?_, by rw [hz], (hB.setCell (p := ⟨w.heap.size + 1, 0, none⟩) (by simp) _).trans (belowK_b (w := w) (Nat.le_refl _) _ D _ _ (by omega) hK' rfl rfl)⟩
    simp [results, Tryz.f159, go_sem, hc5]
  case stop =>
    rintro D c pre W hD ⟨m, hm, rfl⟩ ⟨⟨rfl, ini, last, e1, e2, e3, hcr⟩, hB⟩ hK
    gi_wp2
    refine ⟨by simp, .inl ⟨_, _, rfl, run_takeDeferred hK, ?_⟩⟩
    have hc5 := cell_kept hcr (grownBy_putObj' _ D (.deferred none)) (fun r e => by cases e; exact ⟨_, hK, rfl⟩)
    have hml : m < l0.length := by
      rcases Nat.lt_or_ge m l0.length with h | h
      · exact h
      · rw [show m = l0.length by omega, came_top] at e1
        simp at e1
    rw [came_next _ m hml] at e1
    obtain ⟨e4, e5⟩ := List.append_inj' e1 rfl
    obtain rfl : (⟨m, hml⟩ : Fin l0.length) = last := by simpa using e5
    have hz := from_ne l0 l1 l0.length m hml (fun j h1 h2 => e2 ⟨j, h2⟩ (by rw [← e4]; exact mem_came (by omega) h2)) e3
    refine ⟨_, ?_, by rw [hz], hB.trans (belowK_b (w := w) (Nat.le_refl _) W D _ _ (by omega) hK rfl rfl)⟩
    simp only [results, Tryz.f159]
    simp [go_sem, hc5]
set_option maxRecDepth 100000 in
set_option maxHeartbeats 1000000 in
theorem other (A0 : Option Addr) (c0 : Nat) (l0 : List Int) (A1 : Option Addr) (c1 : Nat) (l1 : List Int) (w : World) (h0 : l0.length ≤ 9223372036854775807) (h1 : l1.length ≤ 9223372036854775807) (hl : l0.length ≠ l1.length) :
    Calls Tryz.prog 159 #[.slice A0 l0.length c0, .slice A1 l1.length c1] w fun e w' => e = .returned (.int .i64 (if l0.length > l1.length then 1 else -1)) ∧ Below w.heap.size w w' := by
  have hBl : (((l0.length : Int)) != ((l1.length : Int))) = true := by simp; omega
  have hBn : (l0.length != l1.length) = true := by simp; omega
  have hs : (if l0.length > l1.length then (1 : Int) else -1) = if decide (l0.length > l1.length) = true then 1 else -1 := by simp
  rw [hs]
  obtain ⟨b, hb⟩ : ∃ b, b = decide (l0.length > l1.length) := ⟨_, rfl⟩
  rw [← hb]
  have hb1 : decide ((l1.length : Int) < (l0.length : Int)) = b := by rw [hb]; simp
  have hb2 : decide (l1.length < l0.length) = b := hb.symm
  clear hs hb
  go_enter Tryz.func159, Tryz.ntmps159
  cases b
  all_goals
    go_wp2_with (go_at_call 202; refine (sign_t _ _).mono ?_; rintro e w' ⟨rfl, rfl⟩)
    refine bodyPost_ret (v := .int .i64 _) (by simp [results, Tryz.f159, go_sem]) rfl ⟨rfl, ?_⟩
    exact ((Below.refl _ w).alloc (Nat.le_refl _) _).alloc (by simp) _
end Hcmp
theorem cmp_ok {inv : World → Prop} : CallT Tryz.prog 159 [.sl (.int .u32), .sl (.int .u32)] [.int .i64] inv cmpF := by
  intro y r h w fz0 vs hfz _ hd
  obtain ⟨hc, rfl⟩ := cond_some h
  simp only [Bool.and_eq_true, decide_eq_true_eq] at hc
  obtain ⟨h0, h1⟩ := hc
  obtain ⟨v, us, rfl, d1, d2⟩ := unCons hd
  obtain ⟨A0, c0, e0, _, n0⟩ := unSl d1
  obtain ⟨A1, c1, rfl, _, n1⟩ := unSl d2
  cases e0
  by_cases hl : y.1.length = y.2.length
  · rw [if_pos hl]
    refine (Hcmp.same A0 c0 y.1 A1 c1 y.2 w fz0 hfz n0 n1 h0 hl).mono fun e w' ⟨he, hb⟩ => ?_
    subst he
    exact retT_plain (ts := [.int .i64]) (r := cmpFrom y.1 y.2 y.1.length) [_] hb rfl (denInt _ _)
  · rw [if_neg hl]
    refine (Hcmp.other A0 c0 y.1 A1 c1 y.2 w h0 h1 hl).mono fun e w' ⟨he, hb⟩ => ?_
    subst he
    exact retT_plain (ts := [.int .i64]) [_] hb rfl (denInt _ _)
end Go.Proofs.YtpdfjgooaaailaaGreatDoor.H
namespace Go.Proofs.YtpdfjgooaaailaaGreatDoor.BwDiv
open Go.RowKit Go.Shelf
open Go.Proofs.YtpdfjgooaaailaaGreatDoor.K (rd ReadsInt)
attribute [local go_sem] Oper.semAt_some
def came (n m : Nat) : List (Fin n) := ((List.finRange n).drop m).reverse
theorem came_top (n : Nat) : came n n = [] := by simp [came]
theorem came_all (n : Nat) : came n 0 = (List.finRange n).reverse := by simp [came]
theorem came_length (n m : Nat) : (came n m).length = n - m := by simp [came]
theorem came_next (n m : Nat) (h : m < n) : came n m = came n (m + 1) ++ [⟨m, h⟩] := by
  unfold came
  rw [List.drop_eq_getElem_cons (by simpa using h)]
  simp
theorem mem_came {n m j : Nat} (hm : m ≤ j) (hj : j < n) : (⟨j, hj⟩ : Fin n) ∈ came n m := by
  unfold came
  rw [List.mem_reverse, List.mem_drop_iff_getElem]
  exact ⟨j - m, by simp; omega, by simp; omega⟩
def Keeps (keep : Nat → Prop) (A B : World) : Prop := ∀ k, keep k → B.heap[k]? = A.heap[k]?
theorem Keeps.refl (keep : Nat → Prop) (A : World) : Keeps keep A A := fun _ _ => rfl
theorem Keeps.trans {keep : Nat → Prop} {A B C : World} (h : Keeps keep A B) (k : Keeps keep B C) : Keeps keep A C := fun i hi => (k i hi).trans (h i hi)
theorem Keeps.b {keep : Nat → Prop} {w : World} (hk : ∀ k, keep k → k < w.heap.size) (W : World) (l : Nat) (o o' : Obj) (hl : w.heap.size ≤ l) (_ : W.heap[l]? = some o) (_ : o.isCells = false) (_ : o.isWalk = false) : Keeps keep W (W.putObj l o') :=
  fun k h => World.putObj_heap_other (by have := hk k h; omega)
theorem Keeps.of_below {keep : Nat → Prop} {B : Nat} {A W : World} (h : Below B A W) (hk : ∀ k, keep k → k < B) : Keeps keep A W := fun k hkk => h.block k (hk k hkk)
def Reads (keep : Nat → Prop) (w : World) (Bs : Nat) (A : Option Addr) (c : Nat) (zs : List Int) : Prop :=
  ∀ W, Keeps keep w W → W.cell? ⟨Bs, 0, none⟩ = some (.slice A zs.length c) ∧ ReadsInt W .u32 A zs.length zs
set_option maxRecDepth 100000 in
set_option maxHeartbeats 2000000 in
theorem round_in (F : Fence) (n : Nat) (hf : F.fn 222) (hro : F.round = none) (hn : 1 ≤ n) (l Bs c : Nat) (A : Option Addr) (zs : List Int) (hreach : zs.length ≤ 9223372036854775807) (keep : Nat → Prop) (w : World) (hR : Reads keep w Bs A c zs) (J Jx : List (Fin zs.length) → World → Prop)
    (hY : ∀ pre x W, J pre W → pre.length < zs.length → YieldAt F (n - 1) Tryz.prog l #[.int .i64 (x.val : Int), .int .u32 (rd zs (x.val : Int))] W fun e W' =>
      (e = .returned (.bool true) ∧ J (pre ++ [x]) W' ∧ Keeps keep W W') ∨ (e = .returned (.bool false) ∧ Jx (pre ++ [x]) W'))
    (W : World) (hW : Keeps keep w W) (h0 : J [] W) :
    CallsIn F n Tryz.prog 222 #[.func (.yield l) #[] #[], .pointer (some ⟨Bs, 0, none⟩)] W fun e W' => (∃ v, e = .returned v) ∧
      ((∃ ys, ys = came zs.length 0 ∧ J ys W') ∨ (∃ pre, (∃ m, m ≤ zs.length ∧ pre = came zs.length m) ∧ Jx pre W')) := by
  refine callsIn_of_wp Tryz.func222 rfl hf ?_ hro
  simp only [Tryz.ntmps222, List.size_toArray, List.length_cons, List.length_nil, Nat.reduceAdd, Nat.reduceSub, Array.replicate_succ, Array.replicate_zero, List.push_toArray, List.append_toArray, List.nil_append, List.cons_append]
  obtain ⟨len, hlen⟩ : ∃ m, m = zs.length := ⟨_, rfl⟩
  have hBs := (hR W hW).1
  rw [← hlen] at hBs hreach
  have HL := Lib.hid hlen
  clear hlen
  gi_wp2
  gi_loopw [3] (fun v wr => ∃ i : Int, -1 ≤ i ∧ i < len ∧ v = .int .i64 i ∧ J (came zs.length (i + 1).toNat) wr ∧ Keeps keep w wr)
    (fun v _ => (intOf v + 1).toNat)
  case atStart => exact ⟨(len : Int) - 1, by omega, by omega, rfl, by rw [show ((len : Int) - 1 + 1).toNat = zs.length by rw [← HL.out]; omega, came_top]; exact h0, hW⟩
  case round =>
    obtain ⟨i, hi1, hi2, rfl, hJs, hnx⟩ := hrel
    by_cases hp : 0 ≤ i
    · obtain ⟨q, rfl⟩ := Int.eq_ofNat_of_zero_le hp
      have hq0 : q < zs.length := by rw [← HL.out]; omega
      have hq : q < len := by omega
      obtain ⟨hBs', hC⟩ := hR wr hnx
      rw [← HL.out] at hBs'
      obtain ⟨ad, rfl, hcx⟩ := K.ReadsInt.at_ hC (q : Int) (by omega) (by omega)
      replace hcx : wr.cell? (ad.add q) = some (.int .u32 (rd zs (q : Int))) := hcx
      rw [show ((q : Int) + 1).toNat = q + 1 by omega] at hJs
      obtain ⟨fn, tmps, assign, body, hy, hR1⟩ := hY _ ⟨q, hq0⟩ wr hJs (by rw [came_length]; omega)
      dsimp only at hy
      clear hBs hC
      gi_wp2
      refine hR1.mono ?_
      rintro e W3 (⟨rfl, hJ3, hk3⟩ | ⟨rfl, hJx3⟩)
      · gi_wp2
        go_roundw
        case rel => exact ⟨(q : Int) - 1, by omega, by omega, rfl, by rw [show ((q : Int) - 1 + 1).toNat = q by omega, came_next zs.length q hq0]; exact hJ3, hnx.trans hk3⟩
        case measure => simp [intOf]
      · gi_wp2
        refine bodyPost_ret (results_none rfl _ _ _) rfl ?_
        exact ⟨⟨_, rfl⟩, .inr ⟨_, ⟨q, by omega, (came_next zs.length q hq0).symm⟩, hJx3⟩⟩
    · obtain rfl : i = -1 := by omega
      gi_wp2
      go_end0
      exact ⟨⟨_, rfl⟩, .inl hJs⟩
set_option maxHeartbeats 1000000 in
theorem backward_in (F : Fence) (n : Nat) (hf : F.fn 194) (hro : F.round = none) (a : Option Addr) (len cap : Nat) (w : World) :
    CallsIn F n Tryz.prog 194 #[.slice a len cap] w fun e w' => e = .returned (.func (.func 222) #[] #[.pointer (some ⟨w.heap.size, 0, none⟩)]) ∧ w' = w.alloc (.cells #[.slice a len cap] 160) := by
  refine callsIn_of_wp Tryz.func194 rfl hf ?_ hro
  simp only [Tryz.ntmps194, List.size_toArray, List.length_cons, List.length_nil, Nat.reduceAdd, Nat.reduceSub, Array.replicate_succ, Array.replicate_zero, List.push_toArray, List.append_toArray, List.nil_append, List.cons_append]
  gi_wp2
  go_ret
  exact ⟨rfl, rfl⟩
theorem stops (F : Fence) (n : Nat) (hf : F.fn 222) (hro : F.round = none) (hn : 1 ≤ n) (Bs c : Nat) (A : Option Addr) (zs : List Int) (hreach : zs.length ≤ 9223372036854775807) (keep : Nat → Prop) (w : World) (hk : ∀ k, keep k → k < w.heap.size) (hR : Reads keep w Bs A c zs) :
    SeqStopsK F n Tryz.prog 222 #[.pointer (some ⟨Bs, 0, none⟩)] (fun x : Fin zs.length => #[Value.int .i64 (x.val : Int), Value.int .u32 (rd zs (x.val : Int))]) (Keeps keep) (fun ys => ys = came zs.length 0)
      (fun pre => ∃ m, m ≤ zs.length ∧ pre = came zs.length m) zs.length w := fun l J Jx W hW _ _ hY h0 =>
  round_in F n hf hro hn l Bs c A zs hreach keep w hR J Jx hY W (Keeps.of_below hW hk) h0
end Go.Proofs.YtpdfjgooaaailaaGreatDoor.BwDiv
namespace Go.Proofs.YtpdfjgooaaailaaGreatDoor.H
open Go Go.RowKit Go.Shelf Go.Proofs.YtpdfjgooaaailaaGreatDoor.BwDiv
open Go.Proofs.YtpdfjgooaaailaaGreatDoor.K (Ty den rd nums nums_append add_plain ReadsInt own_base own_string Nums unSl bytesOf unCons slDen ret_str ret_int ret_sl str_bytes RetT CallT retT_plain denInt denStr cond_some)
attribute [local go_sem] Oper.semAt_some
def be4Div (l : List Int) : List Int := l.flatMap fun n => [n / 16777216 % 256, n / 65536 % 256, n / 256 % 256, n % 256]
namespace HtextDiv
theorem be4_snoc (l : List Int) (n : Int) : be4Div (l ++ [n]) = be4Div l ++ [n / 16777216 % 256, n / 65536 % 256, n / 256 % 256, n % 256] := by simp [be4Div]
theorem appendedK {W w1 : World} {n₀ n₁ B : Nat} {t e : TypeId} {size : Nat} {v v' : Value} {k m : Nat} {xs ys : List Value} {tmp : Obj}
    (hv : Boxed W B t v) (hte : t ≠ e) (hrow : W.ownsRow n₁ e size v k xs) (hn₁ : n₁ ≤ W.heap.size) (hB : n₀ ≤ B) (h01 : n₀ ≤ n₁)
    (hown' : w1.ownsRow n₁ e size v' m ys) (hgrow : (W.alloc tmp).grownBy w1 v.ownBlock) :
    Boxed w1 B t v ∧ Boxed (w1.setCell ⟨B, 0, none⟩ v') B t v' ∧ (w1.setCell ⟨B, 0, none⟩ v').ownsRow n₁ e size v' m ys ∧ KeepsOthers W (w1.setCell ⟨B, 0, none⟩ v') ∧ Below n₀ W (w1.setCell ⟨B, 0, none⟩ v') ∧
      (∀ i, i < n₁ → i ≠ B → (w1.setCell ⟨B, 0, none⟩ v').heap[i]? = W.heap[i]?) ∧ W.heap.size ≤ (w1.setCell ⟨B, 0, none⟩ v').heap.size := by
  have hv1 : Boxed w1 B t v := (hv.alloc tmp).kept hgrow (hv.not_row hte hrow)
  have hbase : ∀ j, v.ownBlock = some j → n₁ ≤ j := fun j ej => own_base hrow j ej
  refine ⟨hv1, hv1.set v', hown'.kept (grownBy_setCell' w1 B v') (.inr (hv1.not_row hte hown').symm), ?_, ?_, ?_, by have := hgrow.size; simp at this ⊢; omega⟩
  · refine ((KeepsOthers.alloc W tmp).trans (KeepsOthers.of_grownBy hgrow fun j o ej hj => ?_)).trans (KeepsOthers.setCell _ _ _)
    rcases (hrow.alloc tmp).2 with ⟨rfl, _⟩ | ⟨g, cap, cur, rfl, _, hgb, _⟩
    · simp [Value.ownBlock] at ej
    · obtain rfl : g = j := by simpa [Value.ownBlock] using ej
      rw [hgb] at hj; cases hj; rfl
  · exact (((Below.refl n₀ W).alloc (Nat.le_trans h01 hn₁) tmp).grown hgrow (by simp; omega) fun j ej => Nat.le_trans h01 (hbase j ej)).setCell (p := ⟨B, 0, none⟩) hB v'
  · intro i hi hne
    rw [(grownBy_setCell' w1 B v').block i (by have := hgrow.size; simp at this; omega) (by intro e; injection e with e; exact hne e)]
    rw [hgrow.block i (by simp; omega) (by intro e; have := hbase i e.symm; omega)]
    exact Below.heap_alloc W tmp i (by omega)
theorem cells_new (W : World) (xs : List Value) (e : TypeId) (j : Nat) (u : Value) (h : xs[j]? = some u) : (W.alloc (.cells xs.toArray e)).cell? ((⟨W.heap.size, 0, none⟩ : Addr).add j) = some u := by
  rw [add_plain]
  have h1 := World.alloc_heap_new W (.cells xs.toArray e)
  simp only [World.cell?, h1]
  simp [h]
def Row (W : World) (n₁ B : Nat) (zs : List Int) (pre : List (Fin zs.length)) : Prop :=
  ∃ v, Boxed W B 71 v ∧ W.ownsRow n₁ 5 1 v (4 * pre.length) (nums .u8 (be4Div (pre.map fun x => rd zs (x.val : Int))))
theorem Row.own (n₁ B : Nat) (zs : List Int) : Own (fun pre W => Row W n₁ B zs pre) := by
  intro s W W' row ⟨v, hv, hr⟩ hg hrow
  obtain ⟨v', h1, h2, _⟩ := holdsRow_own n₁ B 71 5 1 (fun pre => 4 * pre.length) (fun pre => nums .u8 (be4Div (pre.map fun x => rd zs (x.val : Int)))) (fun _ _ => True) s W W' row ⟨v, hv, hr, trivial⟩ hg hrow
  exact ⟨v', h1, h2⟩
theorem all_rev (zs : List Int) : (came zs.length 0).map (fun x => rd zs (x.val : Int)) = zs.reverse := by
  rw [came_all]
  apply List.ext_getElem
  · simp
  · intro i h1 h2
    simp at h1 h2
    simp [rd]
set_option maxRecDepth 100000 in
set_option maxHeartbeats 4000000 in
theorem main {inv : World → Prop} (A0 : Option Addr) (c0 : Nat) (l0 cc : List Int) (r : List UInt8) (w : World) (fz0 : Nat → Prop) (hfz : ∀ b, fz0 b → b < w.heap.size) (hinv : ∀ W, Below w.heap.size w W → inv W) (hr0 : Nums w.heap fz0 .u32 A0 l0) (hc0 : l0.length ≤ c0) (hlen : cc.length * 4 ≤ 140737488355328)
    (hcc : cc = l0)
    (hTr : ∀ W, inv W → Calls Tryz.prog 153 #[.string (strOfNums (be4Div cc.reverse))] W (RetT [.str] W (fun _ => False) r)) :
    Calls Tryz.prog 156 #[.slice A0 l0.length c0] w fun e w' => e = .returned (.string ⟨r.toArray⟩) ∧ Below w.heap.size w w' := by
  have hi5 : (Tryz.prog.info? 5).map (fun i => (i.zero, i.size, i.bytes)) = some (some (.int .u8 0), 1, 1) := by kernel_rfl
  obtain ⟨i0, hi, hz0, hz1, hz2⟩ := info_parts hi5
  clear hi5
  refine (callsIn_wide (n := 3)).1 ?_
  refine callsIn_of_wp_marks Tryz.func156 rfl trivial ?_ rfl
  simp only [Tryz.ntmps156, List.size_toArray, List.length_cons, List.length_nil, Nat.reduceAdd, Nat.reduceSub, Array.replicate_succ, Array.replicate_zero, List.push_toArray, List.append_toArray, List.nil_append, List.cons_append]
  have bB := Boxed.new w 71 (.slice none 0 0)
  have hB1 : Below w.heap.size w (w.alloc (.cells #[.slice none 0 0] 71)) := (Below.refl _ w).alloc (Nat.le_refl _) _
  subst hcc
  have bB1 := bB
  have hBw1 := hB1
  gi_wp2_with (first | (refine ⟨trivial, ?_⟩; gi_at_call 194; refine (backward_in Fence.wide (3 - 1) trivial rfl _ _ _ _).mono ?_; rintro e w' ⟨rfl, rfl⟩))
  have bS := Boxed.new (w.alloc (.cells #[.slice none 0 0] 71)) 160 (.slice A0 cc.length c0)
  have bB' := bB1.alloc (.cells #[.slice A0 cc.length c0] 160)
  have hBW : Below w.heap.size w ((w.alloc (.cells #[.slice none 0 0] 71)).alloc (.cells #[.slice A0 cc.length c0] 160)) := hBw1.alloc (by have := hBw1.size; omega) _
  have hsz1 : w.heap.size + 1 ≤ (w.alloc (.cells #[.slice none 0 0] 71)).heap.size := by simp
  obtain ⟨W0, hW0⟩ : ∃ W0, (w.alloc (.cells #[.slice none 0 0] 71)).alloc (.cells #[.slice A0 cc.length c0] 160) = W0 := ⟨_, rfl⟩
  have hold : ∀ k, k < (w.alloc (.cells #[.slice none 0 0] 71)).heap.size → W0.heap[k]? = (w.alloc (.cells #[.slice none 0 0] 71)).heap[k]? := fun k hk => by rw [← hW0]; exact Below.heap_alloc _ _ k hk
  have hsz : W0.heap.size = (w.alloc (.cells #[.slice none 0 0] 71)).heap.size + 1 := by rw [← hW0]; simp
  rw [hW0] at bB' bS hBW ⊢
  clear hW0
  simp only [World.size_alloc] at bS hsz hsz1 hold
  obtain ⟨SS, hSSd⟩ : ∃ SS : Nat → Prop, SS = fz0 := ⟨_, rfl⟩
  have hN : Nums (w.alloc (.cells #[.slice none 0 0] 71)).heap SS .u32 A0 cc := by rw [hSSd]; exact K.Nums.mono hr0 fun b hb => ⟨hb, hB1.block b (hfz b hb)⟩
  have hSS : ∀ b, SS b → b < w.heap.size + 1 ∧ b ≠ w.heap.size := by
    rw [hSSd]
    intro b hb
    have := hfz b hb; exact ⟨by omega, by omega⟩
  clear hSSd
  obtain ⟨keep, hkeep⟩ : ∃ keep : Nat → Prop, keep = fun k => k < W0.heap.size ∧ k ≠ w.heap.size := ⟨_, rfl⟩
  have hkb : ∀ k, keep k → k < W0.heap.size := by rw [hkeep]; exact fun k hk => hk.1
  have hRd : BwDiv.Reads keep W0 (w.heap.size + 1) A0 c0 cc := by
    intro W hW
    refine ⟨Boxed.cell ((hW _ (by rw [hkeep]; exact ⟨by omega, by omega⟩)).trans bS), ?_⟩
    refine K.Nums.reads (S := SS) (K.Nums.mono hN fun b hb => ⟨hb, ?_⟩) (by omega)
    obtain ⟨q1, q2⟩ := hSS b hb
    rw [hW b (by rw [hkeep]; exact ⟨by omega, q2⟩)]
    exact hold b q1
  have hkk : ∀ k, keep k → k < W0.heap.size ∧ k ≠ w.heap.size := by rw [hkeep]; exact fun _ h => h
  clear hkeep
  refine wpIn_rangeFunc_ownG (F := Fence.wide) (n := 3) rfl (by omega) (gf := 222) (lb := #[.pointer (some ⟨(w.heap.size + 1), 0, none⟩)]) rfl trivial (enters_of Tryz.func222 (by kernel_rfl) rfl)
    (BwDiv.stops Fence.wide (3 - 1) trivial rfl (by omega) (w.heap.size + 1) c0 A0 cc (by omega) keep W0 hkb hRd) BwDiv.Keeps.trans (BwDiv.Keeps.b hkb) (Below.refl _ _) (fun _ => rfl)
    (fun pre W => (Row W W0.heap.size w.heap.size cc pre ∧ W0.heap.size ≤ W.heap.size) ∧ Below w.heap.size w W)
    (fun _ _ _ => False)
    (OwnFrom.and (fun s A B row hs hg hr => ⟨(Row.own W0.heap.size w.heap.size cc) s A B row hs.1 hg (fun r e => (hr r e).2), Nat.le_trans hs.2 hg.size⟩) (ownFrom_below (Nat.le_refl _) (by omega)))
    (fun _ _ _ _ _ hs _ _ => hs)
    ⟨⟨⟨_, bB', World.ownsRow_nil _ _ _ _⟩, Nat.le_refl _⟩, hBW⟩
    ?a1 ?assign ?body ?done ?stop
  case assign =>
    intro l x W K hK
    gi_wp2
    exact hK
  case body =>
    rintro l pre x W ⟨⟨⟨v, hv, hown⟩, hWsz⟩, hB⟩ hlt
    have hc := hv.cell
    gi_wp2_with (gi_at_builtin; refine wpListIn_append_own _ rfl _ _ 71 rfl W0.heap.size 5 i0 (.int .u8 0) 1 1 Tryz.underlying71 hi hz0 hz1 hz2 rfl (by decide) _ _ _ rfl (hown.alloc _) ⟨W.heap.size, 0, none⟩ 4 4 _ rfl rfl (cells_new _ _ _) (by simp [Value.oneCell']) (by unfold maxLen; omega) (by omega) (by simp; omega) ?_; intro v' w1 hown' hgrow _; obtain ⟨g', cap', rfl⟩ := ownsRow_succ hown'; obtain ⟨hv1, hv2, hr2, hk2, hb2, hkeep2, hsz2⟩ := appendedK hv (by decide) hown hWsz (Nat.le_refl _) (by omega) hown' hgrow; have hc1 := hv1.cell; have hf1 := hv1.frozen)
    refine ⟨hk2.from _, fun k hk => hkeep2 k (hkk k hk).1 (hkk k hk).2, ⟨⟨_, hv2, ?_⟩, Nat.le_trans hWsz hsz2⟩, hB.trans hb2⟩
    rw [List.map_append, List.map_cons, List.map_nil, be4_snoc, nums_append]
    simpa [nums, Nat.mul_add] using hr2
  case done =>
    rintro D ys W hD rfl ⟨⟨⟨v, hv, hown⟩, hWsz⟩, hB⟩ hK
    have hc := hv.cell
    rw [all_rev, came_length] at hown
    have hcv := own_string (P := Tryz.prog) Tryz.underlying71 Tryz.underlying5 Tryz.underlying9 hown
    obtain ⟨s, hs⟩ : ∃ s, s = strOfNums (be4Div cc.reverse) := ⟨_, rfl⟩
    rw [← hs] at hcv hTr
    clear hs hown
    have HT := Lib.hid hTr
    clear hTr
    gi_wp2_with (refine ⟨trivial, ?_⟩; gi_at_call 153; refine (callsIn_wide.2 (HT.out _ (hinv _ hB))).mono ?_; intro e w2 hret; obtain ⟨rfl, hb2⟩ := ret_str hret)
    have hK2 : w2.heap[D]? = some (.deferred (some [])) := (hb2.block D (Array.getElem?_eq_some_iff.1 hK).1).trans hK
    refine ⟨by simp, .inl ⟨_, _, rfl, run_takeDeferred hK2, ?_⟩⟩
    exact ⟨_, results_tmp rfl _ _ _, rfl, (hB.trans (hb2.mono hB.size)).trans (belowK_b (w := w) (Nat.le_refl _) w2 D _ _ (by have := hBW.size; omega) hK2 rfl rfl)⟩
  case stop =>
    rintro D c pre W _ _ h _
    exact h.elim
end HtextDiv
def textDivF (l : List Int) : Option (List UInt8) := cond (decide (l.length * 4 ≤ 140737488355328)) (some (Lib.trimLeftB (bytesOf (be4Div l.reverse)) 0)) none
theorem textDiv_ok {inv : World → Prop} (hk : ∀ w w', inv w → Below w.heap.size w w' → inv w') (hTrim : CallT Tryz.prog 153 [.str] [.str] inv trimF) :
    CallT Tryz.prog 156 [.sl (.int .u32)] [.str] inv textDivF := by
  intro y r h w fz0 vs hfz hinv hd
  obtain ⟨hc, rfl⟩ := cond_some h
  simp only [decide_eq_true_eq] at hc
  obtain ⟨A0, c0, rfl, hc0, hn⟩ := unSl hd
  refine (HtextDiv.main (inv := inv) A0 c0 y y (Lib.trimLeftB (bytesOf (be4Div y.reverse)) 0) w fz0 hfz (fun W hb => hk w W hinv hb) hn hc0 hc rfl ?_).mono fun e w' ⟨he, hb⟩ => ?_
  · intro W hi
    rw [str_bytes]
    exact hTrim (bytesOf (be4Div y.reverse)) _ rfl W (fun _ => False) [.string ⟨(bytesOf (be4Div y.reverse)).toArray⟩] (fun _ h => h.elim) hi (denStr _)
  · subst he
    exact retT_plain (ts := [.str]) [_] hb rfl (denStr _)
end Go.Proofs.YtpdfjgooaaailaaGreatDoor.H
namespace Go.Proofs.YtpdfjgooaaailaaGreatDoor.H
open Go Go.RowKit Go.Shelf Go.Proofs.YtpdfjgooaaailaaGreatDoor.BwDiv
open Go.Proofs.YtpdfjgooaaailaaGreatDoor.K (Ty den rd nums nums_append add_plain ReadsInt own_base own_string Nums unSl unInt unCons slDen ret_str ret_int ret_sl str_bytes RetT CallT retT_plain denInt denStr cond_some bytesOf)
attribute [local go_sem] Oper.semAt_some
def shortX (rest n : Int) : Int := Go.bits .or .u64 (IntKind.u64.wrap (rest * 4294967296)) (IntKind.u64.wrap n)
def shortStep (l : List Int) (by_ : Int) (st : Int × List Int) (i : Nat) : Int × List Int :=
  ((shortX st.1 (rd l (i : Int))).tmod by_, st.2.set i (IntKind.u64.wrap ((shortX st.1 (rd l (i : Int))).tdiv by_) % 4294967296))
def shortSt (l : List Int) (by_ : Int) (is : List Nat) : Int × List Int := is.foldl (shortStep l by_) (0, List.replicate l.length 0)
theorem shortSt_snoc (l : List Int) (by_ : Int) (is : List Nat) (i : Nat) : shortSt l by_ (is ++ [i]) = shortStep l by_ (shortSt l by_ is) i := by simp [shortSt]
theorem shortSt_length (l : List Int) (by_ : Int) (is : List Nat) : (shortSt l by_ is).2.length = l.length := by
  unfold shortSt
  suffices H : ∀ (is : List Nat) (st : Int × List Int), st.2.length = l.length → (is.foldl (shortStep l by_) st).2.length = l.length from H is _ (by simp)
  intro is
  induction is with
  | nil => intro st h; exact h
  | cons i is ih => intro st h; exact ih _ (by simp [shortStep, h])
def shortEnd (l : List Int) (by_ : Int) : Int × List Int := shortSt l by_ (List.range l.length).reverse
def shortF (y : List Int × Int) : Option (List Int × List Int) :=
  cond (decide (0 < y.2) && (decide (y.2 < 4294967296) && decide (y.1.length ≤ 1099511627776))) (some ((shortEnd y.1 y.2).2, [(shortEnd y.1 y.2).1 % 4294967296])) none
def plainOps (ops : Array Oper) : Bool := ops.toList.all fun o => match o.op with
  | .defer _ => false
  | _ => true
theorem wpOp_round {F : Fence} {n r : Nat} {P : Program} {ops : Array Oper} {Q : Exit → Act → World → Prop} (hro : F.round = none) (hp : plainOps ops = true) {i : Nat} {K K' : Act → World → Prop} {a : Act} {w : World} (hK : ∀ a w, K a w → K' a w)
    (h : wpOpIn F n P ops Q i K a w) : wpOpIn (F.inRound r) n P ops Q i K' a w := by
  unfold wpOpIn at h ⊢
  cases ho : ops[i]? with
  | none =>
    simp only [ho] at h ⊢
    exact hK _ _ h
  | some o =>
    simp only [ho] at h ⊢
    split
    · rename_i hw
      simp only [hw, if_true] at h
      have hd : ∀ c, o.op ≠ .defer c := by
        intro c hc
        have hm : o ∈ ops.toList := by simpa using Array.mem_of_getElem? ho
        have := List.all_eq_true.1 hp o hm
        rw [hc] at this
        cases this
      refine ⟨h.1, ?_⟩
      have h2 := h.2
      rw [Oper.semAt_plain F _ _ hd] at h2
      rw [Oper.semAt_plain (F.inRound r) _ _ hd]
      generalize (execOp a.eval o).run P w = res at h2
      cases res with
      | ok x w' =>
        cases x <;> simp only [Oper.uponIn] at h2 ⊢ <;>
          first
            | exact hK _ _ h2
            | exact ⟨h2.1, CallsIn.inRound r (CallsIn.mono h2.2 (fun e w'' he => by cases e <;> first | exact hK _ _ he | exact he))⟩
            | exact ⟨h2.1, RowsIn.mono h2.2 (fun _ _ he => hK _ _ he)⟩
            | exact ⟨h2.1, RoundIn.mono h2.2 (fun e w'' he => by cases e <;> first | exact hK _ _ he | exact he)⟩
      | halt x w' => cases x <;> simp only [Oper.uponIn] at h2 ⊢ <;> exact h2
    · rename_i hw
      simp only [hw] at h
      exact ⟨h.1, hK _ _ h.2⟩
theorem wpAny_round {F : Fence} {n r : Nat} {P : Program} {ops : Array Oper} {Q : Exit → Act → World → Prop} {md : Region.Mode} (hro : F.round = none) (hp : plainOps ops = true) :
    ∀ (fuel : Nat) (listed : Array Bool) (a : Act) (w : World), wpAnyIn F n P md ops Q fuel listed a w → wpAnyIn (F.inRound r) n P md ops Q fuel listed a w
  | 0, _, _, _, h => h
  | fuel + 1, listed, a, w, h => ⟨h.1, fun i hi => wpOp_round hro hp (fun a w h => wpAny_round hro hp fuel _ a w h) (h.2 i hi)⟩
namespace Hshort
def Arr (W : World) (B : Nat) (t : TypeId) (xs : List Int) : Prop := W.heap[B]? = some (.cells (nums .u32 xs).toArray t)
theorem Arr.lt {W : World} {B : Nat} {t : TypeId} {xs : List Int} (h : Arr W B t xs) : B < W.heap.size := (Array.getElem?_eq_some_iff.1 h).1
theorem Arr.cell {W : World} {B : Nat} {t : TypeId} {xs : List Int} (h : Arr W B t xs) (i : Nat) (hi : i < xs.length) : W.cell? ⟨B, i, none⟩ = some (.int .u32 (xs.getD i 0)) := by
  simp [World.cell?, show W.heap[B]? = _ from h, nums, hi]
theorem Arr.frozen {W : World} {B : Nat} {t : TypeId} {xs : List Int} (h : Arr W B t xs) (i : Nat) : W.frozen? ⟨B, i, none⟩ = false := by simp [World.frozen?, show W.heap[B]? = _ from h]
theorem Arr.kept {W W' : World} {row : Option Nat} {B : Nat} {t : TypeId} {xs : List Int} (h : Arr W B t xs) (hg : W.grownBy W' row) (hne : some B ≠ row) : Arr W' B t xs := (hg.block B h.lt hne).trans h
theorem Arr.set {W : World} {B : Nat} {t : TypeId} {xs : List Int} (h : Arr W B t xs) (i : Nat) (v : Int) : Arr (W.setCell ⟨B, i, none⟩ (.int .u32 v)) B t (xs.set i v) := by
  obtain ⟨hlt, hk⟩ := Array.getElem?_eq_some_iff.1 h
  show (W.heap.modify B _)[B]? = _
  rw [Array.getElem?_eq_getElem (by rw [Array.size_modify]; exact hlt), Array.getElem_modify_self, hk]
  simp [nums, List.map_set]
theorem grown_set (W : World) (b i : Nat) (v : Value) : W.grownBy (W.setCell ⟨b, i, none⟩ v) (some b) :=
  ⟨rfl, rfl, rfl, (KeepsWalks.setCell W _ v).size, fun k _ hk => Below.heap_setCell _ _ _ k (fun e => hk (by rw [e]))⟩
theorem arr_own {β : Type} (B : Nat) (t : TypeId) (f : β → List Int) : Own (fun s W => Arr W B t (f s)) := by
  intro s X Y row h hg hrow
  refine h.kept hg (fun e => ?_)
  obtain ⟨o, ho, hc⟩ := hrow B e.symm
  rw [show X.heap[B]? = _ from h] at ho
  cases ho
  simp [Obj.isCells] at hc
theorem box_own {β : Type} (B : Nat) (t : TypeId) (f : β → Value) : Own (fun s W => Boxed W B t (f s)) := by
  intro s X Y row h hg hrow
  refine Boxed.kept h hg (fun e => ?_)
  obtain ⟨o, ho, hc⟩ := hrow B e.symm
  rw [show X.heap[B]? = _ from h] at ho
  cases ho
  simp [Obj.isCells] at hc
def after2 (W : World) (N x : Nat) (v1 : Int) (v3 : Value) : World := ((W.setCell ⟨N + 1, x, none⟩ (.int .u32 v1)).setCell ⟨N + 1 + 1 + 1, 0, none⟩ v3).drew
theorem after2_heap (W : World) (N x : Nat) (v1 : Int) (v3 : Value) (k : Nat) (h1 : k ≠ N + 1) (h3 : k ≠ N + 3) : (after2 W N x v1 v3).heap[k]? = W.heap[k]? :=
  (Below.heap_setCell _ ⟨N + 1 + 1 + 1, 0, none⟩ v3 k h3).trans (Below.heap_setCell W ⟨N + 1, x, none⟩ _ k h1)
theorem after2_arr {W : World} {N : Nat} {t : TypeId} {xs : List Int} (h : Arr W (N + 1) t xs) (x : Nat) (v1 : Int) (v3 : Value) : Arr (after2 W N x v1 v3) (N + 1) t (xs.set x v1) :=
  (Below.heap_setCell _ ⟨N + 1 + 1 + 1, 0, none⟩ v3 (N + 1) (by simp)).trans (Arr.set h x v1)
theorem after2_box {W : World} {N : Nat} {t : TypeId} {v : Value} (h : Boxed W (N + 3) t v) (x : Nat) (v1 : Int) (v3 : Value) : Boxed (after2 W N x v1 v3) (N + 3) t v3 :=
  Boxed.set v3 (Boxed.kept h (grown_set W (N + 1) x _) (by simp; omega))
theorem after2_below {w W : World} {N : Nat} (h : Below N w W) (x : Nat) (v1 : Int) (v3 : Value) : Below N w (after2 W N x v1 v3) := by
  have h2 := (h.setCell (p := ⟨N + 1, x, none⟩) (by simp) (.int .u32 v1)).setCell (p := ⟨N + 1 + 1 + 1, 0, none⟩) (by simp; omega) v3
  exact ⟨h2.os, h2.tape, h2.output, h2.size, h2.block⟩
theorem after2_keeps (W : World) (N x B : Nat) (v1 : Int) (v3 : Value) : KeepsFrom B W (after2 W N x v1 v3) := by
  have h := ((KeepsOthers.setCell W ⟨N + 1, x, none⟩ (.int .u32 v1)).trans (KeepsOthers.setCell _ ⟨N + 1 + 1 + 1, 0, none⟩ v3)).from B
  exact ⟨h.1, h.2⟩
set_option maxRecDepth 100000 in
set_option maxHeartbeats 4000000 in
theorem main (A0 : Option Addr) (c0 : Nat) (l0 : List Int) (by_ : Int) (w : World) (fz0 : Nat → Prop) (hfz : ∀ b, fz0 b → b < w.heap.size) (hr0 : Nums w.heap fz0 .u32 A0 l0) (hc0 : l0.length ≤ c0) (hlen : l0.length ≤ 1099511627776) (hb0 : 0 < by_) (hb1 : by_ < 4294967296) :
    Calls Tryz.prog 154 #[.slice A0 l0.length c0, .int .u32 by_] w fun e w' =>
      ∃ B c B' , e = .returned (.tuple #[.slice (some ⟨B, 0, none⟩) l0.length c, .slice (some ⟨B', 0, none⟩) 1 1]) ∧ l0.length ≤ c ∧ w.heap.size ≤ B ∧ w.heap.size ≤ B' ∧ Arr w' B 164 (shortEnd l0 by_).2 ∧ Arr w' B' 164 [(shortEnd l0 by_).1 % 4294967296] ∧ Below w.heap.size w w' := by
  have hi5 : (Tryz.prog.info? 164).map (fun i => (i.zero, i.size, i.bytes)) = some (some (.int .u32 0), 1, 4) := by kernel_rfl
  obtain ⟨i0, hi, hz0, hz1, hz2⟩ := info_parts hi5
  clear hi5
  obtain ⟨n, hn⟩ : ∃ n, n = l0.length := ⟨_, rfl⟩
  have hmk : (Instr.makeSlice 160 (.int .i64 (n : Int)) (.int .i64 (n : Int))).run Tryz.prog (w.alloc (.cells #[.int .u32 by_] 164)) = .ok (.slice (some ⟨w.heap.size + 1, 0, none⟩) n n) ((w.alloc (.cells #[.int .u32 by_] 164)).alloc (.cells (nums .u32 (List.replicate n 0)).toArray 164)) := by
    have := run_make (P := Tryz.prog) (w.alloc (.cells #[.int .u32 by_] 164)) 160 164 i0 (.int .u32 0) Tryz.underlying160 hi hz0 .i64 .i64 n n (by omega) (Int.le_refl _) (by rw [hz2]; omega) (by omega)
    rw [this, hz1]
    have e : madeCells (Value.int .u32 0).cells (n * 1) = (nums .u32 (List.replicate n 0)).toArray := by
      have h := toList_madeCells_one (.int .u32 0) n
      apply Array.toList_inj.1
      rw [Nat.mul_one]
      refine h.trans ?_
      simp [nums]
    simp only [Int.toNat_natCast, World.size_alloc, e]
  refine (callsIn_wide (n := 3)).1 ?_
  refine callsIn_of_wp_marks Tryz.func154 rfl trivial ?_ rfl
  simp only [Tryz.ntmps154, List.size_toArray, List.length_cons, List.length_nil, Nat.reduceAdd, Nat.reduceSub, Array.replicate_succ, Array.replicate_zero, List.push_toArray, List.append_toArray, List.nil_append, List.cons_append]
  rw [← hn]
  have hn' := Lib.hid hn
  clear hn
  gi_wp2_with (refine ⟨trivial, ?_⟩; gi_at_call 194; refine (backward_in Fence.wide (3 - 1) trivial rfl _ _ _ _).mono ?_; rintro e w' ⟨rfl, rfl⟩)
  have hnn := hn'.out
  subst hnn
  clear hn' hmk
  have b3 := Boxed.new w 164 (.int .u32 by_)
  replace b3 := (((b3.alloc (.cells (nums .u32 (List.replicate l0.length 0)).toArray 164)).alloc (.cells #[.slice (some ⟨w.heap.size + 1, 0, none⟩) l0.length l0.length] 160)).alloc (.cells #[.int .u64 0] 91)).alloc (.cells #[.slice A0 l0.length c0] 160)
  obtain ⟨V1, hV1⟩ : ∃ V1, w.alloc (.cells #[.int .u32 by_] 164) = V1 := ⟨_, rfl⟩
  have hB1 : Below w.heap.size w V1 := by rw [← hV1]; exact (Below.refl _ w).alloc (Nat.le_refl _) _
  have z1 : V1.heap.size = w.heap.size + 1 := by rw [← hV1]; simp
  rw [hV1] at b3 ⊢
  have b1 : Arr (V1.alloc (.cells (nums .u32 (List.replicate l0.length 0)).toArray 164)) (w.heap.size + 1) 164 (List.replicate l0.length 0) := by rw [← z1]; exact World.alloc_heap_new V1 _
  obtain ⟨V2, hV2⟩ : ∃ V2, V1.alloc (.cells (nums .u32 (List.replicate l0.length 0)).toArray 164) = V2 := ⟨_, rfl⟩
  have hB2 : Below w.heap.size w V2 := by rw [← hV2]; exact hB1.alloc (by omega) _
  have z2 : V2.heap.size = w.heap.size + 2 := by rw [← hV2]; simp [z1]
  rw [hV2] at b1 b3 ⊢
  have b6 : Boxed (V2.alloc (.cells #[.slice (some ⟨w.heap.size + 1, 0, none⟩) l0.length l0.length] 160)) (w.heap.size + 2) 160 (.slice (some ⟨w.heap.size + 1, 0, none⟩) l0.length l0.length) := by rw [← z2]; exact Boxed.new V2 _ _
  replace b1 := b1.kept (World.grownBy_alloc V2 (.cells #[.slice (some ⟨w.heap.size + 1, 0, none⟩) l0.length l0.length] 160) none) (by simp)
  obtain ⟨V3, hV3⟩ : ∃ V3, V2.alloc (.cells #[.slice (some ⟨w.heap.size + 1, 0, none⟩) l0.length l0.length] 160) = V3 := ⟨_, rfl⟩
  have hB3 : Below w.heap.size w V3 := by rw [← hV3]; exact hB2.alloc (by omega) _
  have z3 : V3.heap.size = w.heap.size + 3 := by rw [← hV3]; simp [z2]
  rw [hV3] at b1 b3 b6 ⊢
  have b7 : Boxed (V3.alloc (.cells #[.int .u64 0] 91)) (w.heap.size + 3) 91 (.int .u64 0) := by rw [← z3]; exact Boxed.new V3 _ _
  replace b1 := b1.kept (World.grownBy_alloc V3 (.cells #[.int .u64 0] 91) none) (by simp)
  replace b6 := b6.alloc (.cells #[.int .u64 0] 91)
  obtain ⟨V4, hV4⟩ : ∃ V4, V3.alloc (.cells #[.int .u64 0] 91) = V4 := ⟨_, rfl⟩
  have hB4 : Below w.heap.size w V4 := by rw [← hV4]; exact hB3.alloc (by omega) _
  have z4 : V4.heap.size = w.heap.size + 4 := by rw [← hV4]; simp [z3]
  rw [hV4] at b1 b3 b6 b7 ⊢
  have bS : Boxed (V4.alloc (.cells #[.slice A0 l0.length c0] 160)) (w.heap.size + 4) 160 (.slice A0 l0.length c0) := by rw [← z4]; exact Boxed.new V4 _ _
  replace b1 := b1.kept (World.grownBy_alloc V4 (.cells #[.slice A0 l0.length c0] 160) none) (by simp)
  replace b6 := b6.alloc (.cells #[.slice A0 l0.length c0] 160)
  replace b7 := b7.alloc (.cells #[.slice A0 l0.length c0] 160)
  obtain ⟨W0, hW0⟩ : ∃ W0, V4.alloc (.cells #[.slice A0 l0.length c0] 160) = W0 := ⟨_, rfl⟩
  have hB0 : Below w.heap.size w W0 := by rw [← hW0]; exact hB4.alloc (by omega) _
  have hsz : W0.heap.size = w.heap.size + 5 := by rw [← hW0]; simp [z4]
  rw [hW0] at b1 b3 b6 b7 bS ⊢
  clear hV1 hV2 hV3 hV4 hW0 hB1 hB2 hB3 hB4 z1 z2 z3 z4
  obtain ⟨keep, hkeep⟩ : ∃ keep : Nat → Prop, keep = fun k => k < w.heap.size ∨ k = w.heap.size + 4 := ⟨_, rfl⟩
  have hkb : ∀ k, keep k → k < W0.heap.size := by rw [hkeep]; intro k hk; rcases hk with h | h <;> omega
  have hRd : BwDiv.Reads keep W0 (w.heap.size + 4) A0 c0 l0 := by
    intro W hW
    refine ⟨Boxed.cell ((hW _ (by rw [hkeep]; exact .inr rfl)).trans bS), ?_⟩
    refine K.Nums.reads (S := fz0) (K.Nums.mono hr0 fun b hb => ⟨hb, ?_⟩) (by omega)
    rw [hW b (by rw [hkeep]; exact .inl (hfz b hb))]
    exact hB0.block b (hfz b hb)
  have hk1 : ¬ keep (w.heap.size + 1) := by rw [hkeep]; omega
  have hk3 : ¬ keep (w.heap.size + 3) := by rw [hkeep]; omega
  clear hkeep
  refine wpIn_rangeFunc_ownG (F := Fence.wide) (n := 3) rfl (by omega) (gf := 222) (lb := #[.pointer (some ⟨w.heap.size + 4, 0, none⟩)]) rfl trivial (enters_of Tryz.func222 (by kernel_rfl) rfl)
    (BwDiv.stops Fence.wide (3 - 1) trivial rfl (by omega) (w.heap.size + 4) c0 A0 l0 (by omega) keep W0 hkb hRd) BwDiv.Keeps.trans (BwDiv.Keeps.b hkb) (Below.refl _ _) (fun _ => rfl)
    (fun pre W => (Boxed W w.heap.size 164 (.int .u32 by_) ∧ Arr W (w.heap.size + 1) 164 (shortSt l0 by_ (pre.map Fin.val)).2 ∧ Boxed W (w.heap.size + 2) 160 (.slice (some ⟨w.heap.size + 1, 0, none⟩) l0.length l0.length) ∧
      Boxed W (w.heap.size + 3) 91 (.int .u64 (shortSt l0 by_ (pre.map Fin.val)).1)) ∧ Below w.heap.size w W)
    (fun _ _ _ => False)
    (OwnFrom.and (Own.from (fun s A B row hs hg hr => ⟨box_own _ _ (fun _ => _) s A B row hs.1 hg hr, arr_own _ _ (fun s => _) s A B row hs.2.1 hg hr, box_own _ _ (fun _ => _) s A B row hs.2.2.1 hg hr, box_own _ _ (fun _ => _) s A B row hs.2.2.2 hg hr⟩) _) (ownFrom_below (Nat.le_refl _) (by omega)))
    (fun _ _ _ _ _ hs _ _ => hs)
    ⟨⟨b3, b1, b6, b7⟩, hB0⟩
    ?a1 ?assign ?body ?done ?stop
  case assign =>
    intro l x W K hK
    gi_wp2
    exact hK
  case body =>
    rintro l pre ⟨x, hx⟩ W ⟨⟨hb, ha, ho, hr⟩, hB⟩ hlt
    have hcb := hb.cell
    have hco := ho.cell
    have hcr := hr.cell
    have hfr := hr.frozen
    have hca := ha.cell x (by rw [shortSt_length]; exact hx)
    have hfa := ha.frozen x
    have hco' : W.cell? ⟨w.heap.size + 1 + 1, 0, none⟩ = some (.slice (some ⟨w.heap.size + 1, 0, none⟩) l0.length l0.length) := hco
    have hcr' : W.cell? ⟨w.heap.size + 1 + 1 + 1, 0, none⟩ = some (.int .u64 (shortSt l0 by_ (pre.map Fin.val)).1) := hcr
    have hfr' : W.frozen? ⟨w.heap.size + 1 + 1 + 1, 0, none⟩ = false := hfr
    have hbn : ¬ IntKind.u64.wrap by_ = 0 := by simp [IntKind.wrap, IntKind.bits, IntKind.signed]; omega
    dsimp only
    gi_wp2
    refine wpIn_region_any (by kernel_rfl) ?_
    refine wpAny_round rfl (by kernel_rfl) _ _ _ _ ?_
    change wpAnyIn _ _ _ _ _ _ _ _ _ (World.drew _)
    (refine wpAnyIn_take (i := 1) (v := ?_) rfl rfl (by kernel_rfl) (by kernel_rfl) (by kernel_rfl) (fun _ _ _ h => h) ⟨Or.inl ⟨by rfl, ?_⟩, fun _ => rfl⟩ ?_; rotate_left; focus (intro w; go_simp <;> with_reducible rfl))
    (refine wpAnyIn_take (i := 2) (v := ?_) rfl rfl (by kernel_rfl) (by kernel_rfl) (by kernel_rfl) (fun _ _ _ h => h) ⟨Or.inl ⟨by rfl, ?_⟩, fun _ => rfl⟩ ?_; rotate_left; focus (intro w; go_simp <;> with_reducible rfl))
    refine wpAnyIn_ready (rs := [0, 3]) (by kernel_rfl) (by simp) ?_
    refine AllReadyIn.cons rfl (fun K hK => ?_) (AllReadyIn.cons rfl (fun K hK => ?_) AllReadyIn.nil)
    · go_simp
      refine hK _ _ ?_
      clear hK K
      (refine wpAnyIn_ready (rs := [3]) (by kernel_rfl) (by simp) ?_; refine AllReadyIn.cons rfl (fun K hK => ?_) AllReadyIn.nil; go_simp; refine hK _ _ ?_; clear hK K)
      (refine wpAnyIn_take (i := 4) (v := ?_) rfl rfl (by kernel_rfl) (by kernel_rfl) (by kernel_rfl) (fun _ _ _ h => h) ⟨Or.inl ⟨by rfl, ?_⟩, fun _ => rfl⟩ ?_; rotate_left; focus (intro w; go_simp <;> with_reducible rfl))
      (refine wpAnyIn_take (i := 5) (v := ?_) rfl rfl (by kernel_rfl) (by kernel_rfl) (by kernel_rfl) (fun _ _ _ h => h) ⟨Or.inl ⟨by rfl, ?_⟩, fun _ => rfl⟩ ?_; rotate_left; focus (intro w; go_simp <;> with_reducible rfl))
      (refine wpAnyIn_take (i := 6) (v := ?_) rfl rfl (by kernel_rfl) (by kernel_rfl) (by kernel_rfl) (fun _ _ _ h => h) ⟨Or.inl ⟨by rfl, ?_⟩, fun _ => rfl⟩ ?_; rotate_left; focus (intro w; go_simp <;> with_reducible rfl))
      (refine wpAnyIn_ready (rs := [7]) (by kernel_rfl) (by simp) ?_; refine AllReadyIn.cons rfl (fun K hK => ?_) AllReadyIn.nil; go_simp; refine hK _ _ ?_; clear hK K)
      (refine wpAnyIn_ready (rs := [8]) (by kernel_rfl) (by simp) ?_; refine AllReadyIn.cons rfl (fun K hK => ?_) AllReadyIn.nil; go_simp; refine hK _ _ ?_; clear hK K)
      refine wpAnyIn_done (by kernel_rfl) ?_ _
      gi_wp2
      refine ⟨after2_keeps W w.heap.size x _ _ _, fun k hk => after2_heap W w.heap.size x _ _ k (fun e => hk1 (e ▸ hk)) (fun e => hk3 (e ▸ hk)), ?_⟩
      dsimp only
      rw [List.map_append, List.map_cons, List.map_nil, shortSt_snoc]
      exact ⟨⟨(after2_heap W w.heap.size x _ _ _ (by omega) (by omega)).trans hb, after2_arr ha x _ _, (after2_heap W w.heap.size x _ _ _ (by omega) (by omega)).trans ho, after2_box hr x _ _⟩, after2_below hB x _ _⟩
    · go_simp
      refine hK _ _ ?_
      clear hK K
      (refine wpAnyIn_take (i := 4) (v := ?_) rfl rfl (by kernel_rfl) (by kernel_rfl) (by kernel_rfl) (fun _ _ _ h => h) ⟨Or.inl ⟨by rfl, ?_⟩, fun _ => rfl⟩ ?_; rotate_left; focus (intro w; go_simp <;> with_reducible rfl))
      (refine wpAnyIn_take (i := 5) (v := ?_) rfl rfl (by kernel_rfl) (by kernel_rfl) (by kernel_rfl) (fun _ _ _ h => h) ⟨Or.inl ⟨by rfl, ?_⟩, fun _ => rfl⟩ ?_; rotate_left; focus (intro w; go_simp <;> with_reducible rfl))
      (refine wpAnyIn_take (i := 6) (v := ?_) rfl rfl (by kernel_rfl) (by kernel_rfl) (by kernel_rfl) (fun _ _ _ h => h) ⟨Or.inl ⟨by rfl, ?_⟩, fun _ => rfl⟩ ?_; rotate_left; focus (intro w; go_simp <;> with_reducible rfl))
      (refine wpAnyIn_ready (rs := [0]) (by kernel_rfl) (by simp) ?_; refine AllReadyIn.cons rfl (fun K hK => ?_) AllReadyIn.nil; go_simp; refine hK _ _ ?_; clear hK K)
      (refine wpAnyIn_ready (rs := [7]) (by kernel_rfl) (by simp) ?_; refine AllReadyIn.cons rfl (fun K hK => ?_) AllReadyIn.nil; go_simp; refine hK _ _ ?_; clear hK K)
      (refine wpAnyIn_ready (rs := [8]) (by kernel_rfl) (by simp) ?_; refine AllReadyIn.cons rfl (fun K hK => ?_) AllReadyIn.nil; go_simp; refine hK _ _ ?_; clear hK K)
      refine wpAnyIn_done (by kernel_rfl) ?_ _
      gi_wp2
      refine ⟨after2_keeps W w.heap.size x _ _ _, fun k hk => after2_heap W w.heap.size x _ _ k (fun e => hk1 (e ▸ hk)) (fun e => hk3 (e ▸ hk)), ?_⟩
      dsimp only
      rw [List.map_append, List.map_cons, List.map_nil, shortSt_snoc]
      exact ⟨⟨(after2_heap W w.heap.size x _ _ _ (by omega) (by omega)).trans hb, after2_arr ha x _ _, (after2_heap W w.heap.size x _ _ _ (by omega) (by omega)).trans ho, after2_box hr x _ _⟩, after2_below hB x _ _⟩
  case done =>
    rintro D ys W hD rfl ⟨⟨hb, ha, ho, hr⟩, hB⟩ hK
    have hcb := hb.cell
    have hco := ho.cell
    have hcr := hr.cell
    have hco' : W.cell? ⟨w.heap.size + 1 + 1, 0, none⟩ = some (.slice (some ⟨w.heap.size + 1, 0, none⟩) l0.length l0.length) := hco
    have hcr' : W.cell? ⟨w.heap.size + 1 + 1 + 1, 0, none⟩ = some (.int .u64 (shortSt l0 by_ ((came l0.length 0).map Fin.val)).1) := hcr
    have hcoA : ∀ o, (W.alloc o).cell? ⟨w.heap.size + 1 + 1, 0, none⟩ = some (.slice (some ⟨w.heap.size + 1, 0, none⟩) l0.length l0.length) := fun o => (ho.alloc o).cell
    gi_wp2
    gi_region
    all_goals gi_wp2
    have hDW : D < W.heap.size := (Array.getElem?_eq_some_iff.1 hK).1
    have hrev : (came l0.length 0).map Fin.val = (List.range l0.length).reverse := by
      rw [came_all, List.map_reverse]
      congr 1
      apply List.ext_getElem
      · simp
      · intro i h1 h2; simp
    have hend : shortSt l0 by_ ((came l0.length 0).map Fin.val) = shortEnd l0 by_ := by rw [hrev]; rfl
    have hK2 : ∀ o, ((W.alloc o).drew).heap[D]? = some (.deferred (some [])) := fun o => (Below.heap_alloc W o D hDW).trans hK
    have hBa : ∀ o, Below w.heap.size w (W.alloc o).drew := fun o => by
      have h2 := hB.alloc (by have := hB.size; omega) o
      exact ⟨h2.os, h2.tape, h2.output, h2.size, h2.block⟩
    have hWs := hB.size
    refine ⟨by simp, .inl ⟨_, _, rfl, run_takeDeferred (hK2 _), ?_⟩⟩
    refine ⟨_, results_tmp2 rfl _ _ _, w.heap.size + 1, l0.length, W.heap.size, rfl, Nat.le_refl _, by omega, hWs, ?_, ?_, ?_⟩
    · have h1 : Arr (W.alloc (.cells #[.int .u32 ((shortSt l0 by_ ((came l0.length 0).map Fin.val)).1 % 4294967296)] 164)) (w.heap.size + 1) 164 (shortSt l0 by_ ((came l0.length 0).map Fin.val)).2 := ha.kept (World.grownBy_alloc W _ none) (by simp)
      rw [← hend]
      exact (World.putObj_heap_other (by omega)).trans h1
    · have h1 : (W.alloc (.cells #[.int .u32 ((shortSt l0 by_ ((came l0.length 0).map Fin.val)).1 % 4294967296)] 164)).heap[W.heap.size]? = some (.cells #[.int .u32 ((shortSt l0 by_ ((came l0.length 0).map Fin.val)).1 % 4294967296)] 164) := World.alloc_heap_new W _
      rw [← hend]
      exact (World.putObj_heap_other (by omega)).trans h1
    · exact (hBa _).trans (belowK_b (w := w) (Nat.le_refl _) _ D _ _ (by omega) (hK2 _) rfl rfl)
  case stop =>
    rintro D c pre W _ _ h _
    exact h.elim
theorem arr_nums {w : World} {S : Nat → Prop} {B : Nat} {t : TypeId} {l : List Int} (h : Arr w B t l) (hB : S B) : Nums w.heap S .u32 (some ⟨B, 0, none⟩) l := fun _ =>
  ⟨B, 0, (nums .u32 l).toArray, t, (0, 0), rfl, hB, h, fun i hi => by
    show K.row _ _ _ = [_]
    simp [K.row, K.csz, nums, List.take_one, hi]⟩
end Hshort
theorem short_ok {inv : World → Prop} : CallT Tryz.prog 154 [.sl (.int .u32), .int .u32] [.sl (.int .u32), .sl (.int .u32)] inv shortF := by
  intro y r h w fz0 vs hfz hinv hd
  obtain ⟨l0, by_⟩ := y
  obtain ⟨hc, rfl⟩ := cond_some h
  simp only [Bool.and_eq_true, decide_eq_true_eq] at hc
  obtain ⟨h0, h1, h2⟩ := hc
  obtain ⟨v, us, rfl, d1, d2⟩ := unCons hd
  obtain ⟨A0, c0, e0, hc0, hn⟩ := unSl d1
  have e2 := unInt d2
  cases e0
  subst e2
  refine (Hshort.main A0 c0 l0 by_ w fz0 hfz hn hc0 h2 h0 h1).mono fun e w' ⟨B, c, B', he, hcl, hB, hB', a1, a2, hb⟩ => ?_
  subst he
  have hl : (shortEnd l0 by_).2.length = l0.length := shortSt_length _ _ _
  have D1 := slDen (ok := fun b => w.heap.size ≤ b ∧ b < w'.heap.size) (c := c) (by rw [hl]; exact hcl) (Hshort.arr_nums a1 ⟨hB, Hshort.Arr.lt a1⟩)
  have D2 := slDen (ok := fun b => w.heap.size ≤ b ∧ b < w'.heap.size) (l := [(shortEnd l0 by_).1 % 4294967296]) (c := 1) (Nat.le_refl 1) (Hshort.arr_nums a2 ⟨hB', Hshort.Arr.lt a2⟩)
  rw [hl] at D1
  exact K.retT_ok (ts := [.sl (.int .u32), .sl (.int .u32)]) [_, _] (fun b hb => .inr hb) hb rfl (K.denCons D1 D2)
end Go.Proofs.YtpdfjgooaaailaaGreatDoor.H
set_option maxRecDepth 100000
namespace Go.Proofs.YtpdfjgooaaailaaGreatDoor.C
open Go Go.Proofs.YtpdfjgooaaailaaGreatDoor.K
def look {α : Type} : List (Nat × α) → Nat → Option α
  | [],_ => none
  | (u,v) :: l,t => match Nat.beq u t with
    | true => some v
    | false => look l t
def peq : Path → Path → Bool
  | [],[] => true
  | a :: p,b :: q => Nat.beq a b && peq p q
  | _,_ => false
def lookP : List (Nat × Path × Ann) → Nat → Path → Option Ann
  | [],_,_ => none
  | (g,u,v) :: l,f,t => match Nat.beq g f && peq u t with
    | true => some v
    | false => lookP l f t
def Inv (w : World) : Prop := MaxLen w
theorem inv_max : ∀ w,Inv w → MaxLen w := fun _ h => h
theorem inv_keeps : ∀ w w',Inv w → RowKit.Below w.heap.size w w' → Inv w' := maxLen_keeps
noncomputable def ti3 : TI := { sh := (.int .i64),size := 1,bytes := 8,zero := [(.int .i64 0)],ty := some (.int .i64),fl := [],eq := false }
noncomputable def ti5 : TI := { sh := (.int .u8),size := 1,bytes := 1,zero := [(.int .u8 0)],ty := some (.int .u8),fl := [],eq := false }
noncomputable def ti9 : TI := { sh := .str,size := 1,bytes := 16,zero := [(.str [])],ty := some .str,fl := [],eq := false }
noncomputable def ti30 : TI := { sh := (.st [(0,3),(1,28),(4,9),(5,4),(6,3)]),size := 7,bytes := 80,zero := [(.int .i64 0),(.bool false),(.str []),(.str []),(.str []),(.bool false),(.int .i64 0)],ty := some (.pair (.int .i64) (.pair (.pair .bool (.pair .str .str)) (.pair .str (.pair .bool (.int .i64))))),fl := [(0,1,false),(1,3,true),(4,1,false),(5,1,false),(6,1,false)],eq := false }
noncomputable def ti53 : TI := { sh := (.sl 3),size := 1,bytes := 24,zero := [.nilsl],ty := some (.sl (.int .i64)),fl := [],eq := false }
noncomputable def ti71 : TI := { sh := (.sl 5),size := 1,bytes := 24,zero := [.nilsl],ty := some (.sl (.int .u8)),fl := [],eq := false }
noncomputable def ti91 : TI := { sh := (.int .u64),size := 1,bytes := 8,zero := [(.int .u64 0)],ty := some (.int .u64),fl := [],eq := false }
noncomputable def ti92 : TI := { sh := (.arr 8 9),size := 8,bytes := 128,zero := [(.str []),(.str []),(.str []),(.str []),(.str []),(.str []),(.str []),(.str [])],ty := none,fl := [],eq := false }
noncomputable def ti120 : TI := { sh := (.int .u64),size := 1,bytes := 8,zero := [(.int .u64 0)],ty := some (.int .u64),fl := [],eq := false }
noncomputable def ti160 : TI := { sh := (.sl 164),size := 1,bytes := 24,zero := [.nilsl],ty := some (.sl (.int .u32)),fl := [],eq := false }
noncomputable def ti164 : TI := { sh := (.int .u32),size := 1,bytes := 4,zero := [(.int .u32 0)],ty := some (.int .u32),fl := [],eq := false }
noncomputable def ti166 : TI := { sh := (.sl 164),size := 1,bytes := 24,zero := [.nilsl],ty := some (.sl (.int .u32)),fl := [],eq := false }
noncomputable def tis : List (Nat × TI) := [(3,ti3),(5,ti5),(9,ti9),(30,ti30),(53,ti53),(71,ti71),(91,ti91),(92,ti92),(120,ti120),(160,ti160),(164,ti164),(166,ti166)]
noncomputable def fns : List (Nat × Func) := [(22,Tryz.f22),(34,Tryz.f34),(37,Tryz.f37),(57,Tryz.f57),(59,Tryz.f59),(60,Tryz.f60),(65,Tryz.f65),(92,Tryz.f92),(93,Tryz.f93),(94,Tryz.f94),(95,Tryz.f95),(108,Tryz.f108),(112,Tryz.f112),(113,Tryz.f113),(144,Tryz.f144),(151,Tryz.f151),(152,Tryz.f152),(153,Tryz.f153),(154,Tryz.f154),(155,Tryz.f155),(156,Tryz.f156),(158,Tryz.f158),(159,Tryz.f159),(160,Tryz.f160),(161,Tryz.f161),(162,Tryz.f162),(163,Tryz.f163),(164,Tryz.f164),(167,Tryz.f167),(168,Tryz.f168),(179,Tryz.f179),(184,Tryz.f184),(185,Tryz.f185),(186,Tryz.f186),(195,Tryz.f195),(196,Tryz.f196),(197,Tryz.f197),(200,Tryz.f200),(201,Tryz.f201),(205,Tryz.f205),(215,Tryz.f215),(216,Tryz.f216),(61,Tryz.f61),(198,Tryz.f198),(199,Tryz.f199),(204,Tryz.f204)]
def fidL : List (Nat × Nat) := []
def altL : List (Nat × List (Nat × Nat)) := []
def inls : List Nat := [61,198,199,204]
def rdL : List (Nat × List Bool) := []
def ioL : List Nat := []
noncomputable def ptsL : List (Nat × List Ty) := [(22,[(.int .i64)]),(34,[(.int .i64)]),(37,[.str]),(57,[.str,.str]),(59,[.str]),(60,[(.int .u64)]),(65,[.str]),(92,[.str]),(93,[.str,.str]),(94,[.str,.str]),(95,[(.int .i64)]),(108,[.str,.str]),(112,[.str,.str]),(113,[.str,.str]),(144,[.str,.str]),(151,[.str]),(152,[.str]),(153,[.str]),(154,[(.sl (.int .u32)),(.int .u32)]),(155,[(.sl (.int .u32)),(.sl (.int .u32))]),(156,[(.sl (.int .u32))]),(158,[.str]),(159,[(.sl (.int .u32)),(.sl (.int .u32))]),(160,[(.sl (.int .u32)),(.int .i64)]),(161,[(.sl (.int .u32))]),(162,[.str,(.int .i64)]),(163,[(.int .u64)]),(164,[.str,.str]),(167,[(.int .u64),(.int .i64)]),(168,[.str,.str]),(179,[.str,.str]),(184,[.str,.str]),(185,[.str,.str]),(186,[.str,.str]),(195,[(.int .u32)]),(196,[(.sl (.int .u32)),(.int .i64)]),(197,[(.int .u64),(.int .u64),(.int .u64),(.int .u64),(.int .u64)]),(200,[(.sl (.int .u32)),(.int .i64)]),(201,[(.sl (.int .u32))]),(205,[(.int .u64)]),(215,[.str,(.int .i64)]),(216,[(.sl (.int .i64))])]
noncomputable def rtsL : List (Nat × List Ty) := [(22,[(.pair (.int .i64) (.pair (.pair .bool (.pair .str .str)) (.pair .str (.pair .bool (.int .i64)))))]),(34,[.str]),(37,[(.pair (.int .i64) (.pair (.pair .bool (.pair .str .str)) (.pair .str (.pair .bool (.int .i64)))))]),(57,[.str]),(59,[(.int .i64)]),(60,[.str]),(65,[.bool]),(92,[.str]),(93,[.str]),(94,[.str,.str,(.int .i64)]),(95,[.str]),(108,[.str,.str,(.int .i64)]),(112,[(.int .i64)]),(113,[.str]),(144,[(.int .i64),.str]),(151,[(.int .u64),.bool]),(152,[(.sl (.int .u32))]),(153,[.str]),(154,[(.sl (.int .u32)),(.sl (.int .u32))]),(155,[(.sl (.int .u32)),(.sl (.int .u32))]),(156,[.str]),(158,[(.sl (.int .u32))]),(159,[(.int .i64)]),(160,[(.int .u64)]),(161,[.str]),(162,[.str,(.int .i64)]),(163,[.str]),(164,[.str]),(167,[.str]),(168,[.str]),(179,[.str]),(184,[(.int .i64)]),(185,[.str]),(186,[.str]),(195,[(.int .i64)]),(196,[(.own (.int .u32))]),(197,[(.int .u64)]),(200,[(.sl (.int .u32))]),(201,[(.sl (.int .u32))]),(205,[(.int .i64)]),(215,[(.int .i64)]),(216,[.str])]
noncomputable def annL : List (Nat × List (Nat × Path × Ann)) := [
  (22,[(22,[1,1],{ live := [(0,.keep),(2,.keep)],toks := [(32,[.keep,.keep,.keep,.keep,.keep,.keep,.keep])] })]),
  (34,[(34,[1000000,0,1],{ live := [(0,.keep)],toks := [] }),
    (34,[1,0,1,1],{ live := [(0,.keep),(3,.keep),(10,.keep)],toks := [(48,[.keep,.keep,.keep,.keep,.keep,.keep,.keep,.keep])] })]),
  (57,[(57,[0,1,0,1,1,1],{ live := [(0,.keep),(1,.keep),(5,.keep)],toks := [] }),
    (57,[1,0,0,0,1,0,1,1,1],{ live := [(0,.keep),(1,.keep),(5,.keep),(15,.keep)],toks := [] })]),
  (59,[(59,[0,1,0,1,1,1,1],{ live := [(3,.keep),(4,.keep)],toks := [] })]),
  (60,[(60,[0,1,0,1,1],{ live := [(0,.keep),(3,.keep),(4,.keep)],toks := [] })]),
  (65,[(65,[0,1,0,1],{ live := [(0,.keep),(6,.im (.sl (.int .u8))),(7,.keep),(8,.keep)],toks := [] }),
    (65,[1,1,0,0,1,1,0,0,1,0,1],{ live := [(0,.keep),(6,.im (.sl (.int .u8))),(7,.keep),(8,.keep),(17,.keep)],toks := [] })]),
  (92,[(92,[0,0,1],{ live := [(0,.keep)],toks := [] }),
    (92,[1,0,0,0,0,1],{ live := [(0,.keep),(10,.keep)],toks := [] })]),
  (94,[(94,[0,1,0,1,1,1,1,1,1],{ live := [(0,.keep),(1,.keep),(7,.keep),(8,.keep),(9,.keep)],toks := [] })]),
  (108,[(108,[1,1,1],{ live := [(7,.im (.sl (.int .u32))),(8,.im (.sl (.int .u32)))],toks := [] })]),
  (113,[(113,[0,1,0,1,1,1,1],{ live := [(5,.im (.sl (.int .u32))),(6,.im (.sl (.int .u32))),(7,.own 1099511627776 (.int .u32)),(8,.keep),(19,.keep),(20,.keep)],toks := [] })]),
  (144,[(144,[0,1,0,1,1,1],{ live := [(0,.keep),(1,.keep),(6,.keep),(7,.keep)],toks := [] }),
    (144,[1,1,0,0,1,0,1,1,1],{ live := [(0,.keep),(1,.keep),(6,.keep),(7,.keep)],toks := [] })]),
  (152,[(152,[0,1,0,1,1],{ live := [(0,.keep),(3,.own 1099511627784 (.int .u32))],toks := [] })]),
  (155,[(155,[0,1,0,1,1,1,1,1,1],{ live := [(1,.im (.sl (.int .u32))),(6,.keep),(7,.own 1099511627785 (.int .u32)),(8,.keep),(9,.own 1099511627786 (.int .u32)),(10,.keep)],toks := [] }),
    (155,[1000004,0,0,1,0,0,1,0,0,1,0,1,1,1,1,1,1],{ live := [(1,.keep),(6,.keep),(7,.keep),(8,.keep),(9,.keep),(10,.keep),(11,.keep)],toks := [] }),
    (198,[0,1,0,1,1],{ live := [(0,.keep),(1,.im (.sl (.int .u32))),(2,.keep),(3,.keep),(9,.keep),(10,.keep),(16,.keep),(17,.keep)],toks := [(1099511627785,[]),(1099511627786,[])] }),
    (155,[1000003,1,0,1,0,1,0,0,1,0,0,1,0,1,1,1,1,1,1],{ live := [(1,.keep),(6,.keep),(7,.keep),(8,.keep),(9,.keep),(10,.keep),(11,.keep)],toks := [] }),
    (199,[0,1,0,1],{ live := [(0,.keep),(1,.im (.sl (.int .u32))),(2,.keep),(6,.keep),(10,.keep),(11,.keep)],toks := [(1099511627785,[]),(1099511627786,[])] })]),
  (158,[(158,[0,0,1,1],{ live := [(0,.keep),(3,.own 1099511627782 (.int .u32))],toks := [] }),
    (158,[0,1,0,1,1,0,1,0,0,0,1,1],{ live := [(0,.keep),(3,.own 1099511627783 (.int .u32)),(4,.keep),(5,.keep),(18,.im (.sl (.int .u8))),(19,.keep),(20,.keep)],toks := [] })]),
  (162,[(162,[1,1,1,1,1,0,1,0,1],{ live := [(0,.keep),(1,.keep),(18,.keep)],toks := [] }),
    (162,[0,1,0,1,1,1,1],{ live := [(0,.keep),(1,.keep),(6,.keep),(7,.keep),(8,.keep)],toks := [(96,[.keep])] }),
    (162,[1000002,0,0,0,1,0,0,1,0,1,1,1,1],{ live := [(0,.keep),(1,.keep),(6,.keep),(7,.keep),(8,.keep)],toks := [] }),
    (162,[1000013,0,0,0,1,0,0,1,0,1,1,1,1],{ live := [(0,.keep),(1,.keep),(6,.keep),(7,.keep),(8,.keep),(44,.keep),(50,.keep)],toks := [] }),
    (162,[1,0,0,1,0,0,1,0,1,1,1,1],{ live := [(0,.keep),(1,.keep),(6,.keep),(7,.keep),(8,.keep),(56,.keep)],toks := [(96,[.keep])] })]),
  (164,[(164,[0,1,0,1,1,1],{ live := [(5,.im (.sl (.int .u32))),(6,.im (.sl (.int .u32))),(7,.own 1099511627777 (.int .u32)),(23,.keep),(24,.keep)],toks := [] }),
    (164,[0,1,0,1,1,0,0,1,1,0,0,1,0,1,1,1],{ live := [(5,.im (.sl (.int .u32))),(6,.im (.sl (.int .u32))),(7,.own 1099511627778 (.int .u32)),(8,.keep),(9,.keep),(23,.keep),(24,.keep),(28,.keep),(29,.keep)],toks := [] })]),
  (167,[(167,[0,1,0,1,1],{ live := [(0,.keep),(1,.keep),(5,.own 1099511627779 (.int .u8)),(9,.keep),(10,.keep)],toks := [] })]),
  (179,[(179,[0,0,1,1],{ live := [(0,.keep),(1,.keep)],toks := [] })]),
  (184,[(184,[1,0,1,1,1],{ live := [(0,.keep),(1,.keep),(25,.keep)],toks := [] })]),
  (185,[(185,[0,1,0,1,1],{ live := [(0,.keep),(1,.keep),(5,.own 1099511627780 (.int .i64)),(6,.keep)],toks := [] }),
    (185,[0,1,0,1,1,0,0,1,0,0,1,0,1,1],{ live := [(0,.keep),(1,.keep),(5,.own 1099511627781 (.int .i64)),(6,.keep),(7,.keep),(8,.keep),(9,.keep)],toks := [] })]),
  (186,[(186,[0,1,0,1,1,1,1],{ live := [(0,.keep),(1,.keep),(5,.own 1099511627791 (.int .i64)),(6,.keep),(7,.keep)],toks := [] }),
    (186,[1,1,1,0,0,1,0,0,1,0,1,1,1,1],{ live := [(0,.keep),(1,.keep),(5,.own 1099511627792 (.int .i64)),(6,.keep),(7,.keep),(8,.keep)],toks := [] }),
    (186,[1,0,0,0,1,0,1,1,1,1],{ live := [(0,.keep),(1,.keep),(5,.own 1099511627793 (.int .i64)),(6,.keep),(7,.keep),(22,.keep)],toks := [] })]),
  (196,[(196,[0,1,0,1,1,1],{ live := [(0,.im (.sl (.int .u32))),(1,.keep),(5,.own 1099511627788 (.int .u32)),(6,.keep),(14,.im (.sl (.int .u32))),(15,.keep),(16,.keep)],toks := [] })]),
  (197,[(197,[0,0,1,1,1,0,1],{ live := [(2,.keep),(3,.keep),(4,.keep),(12,.keep),(13,.keep)],toks := [] }),
    (197,[1,0,0,0,0,1,1,1,0,1],{ live := [(2,.keep),(3,.keep),(4,.keep),(12,.keep),(13,.keep),(36,.keep)],toks := [] })]),
  (200,[(200,[0,1,0,1,1],{ live := [(0,.im (.sl (.int .u32))),(1,.keep),(5,.own 1099511627789 (.int .u32)),(12,.keep),(13,.keep)],toks := [] }),
    (200,[1,1,1,0,0,1,1,0,0,1,0,1,1],{ live := [(0,.im (.sl (.int .u32))),(1,.keep),(5,.own 1099511627790 (.int .u32)),(6,.keep),(7,.keep),(12,.keep),(13,.keep)],toks := [] })]),
  (201,[(201,[0,0,1],{ live := [(0,.im (.sl (.int .u32)))],toks := [] }),
    (201,[1,0,0,0,0,1],{ live := [(0,.im (.sl (.int .u32))),(14,.keep)],toks := [] })]),
  (216,[(216,[0,1,0,1,1],{ live := [(0,.im (.sl (.int .i64))),(3,.own 1099511627787 (.int .u8)),(4,.keep)],toks := [] })])]
noncomputable def closedAnn : List (Nat × Path × Ann) := []
def hasF (n : Nat) : List AV → Bool
  | [] => false
  | .func f _ _ :: l => Nat.beq f n || hasF n l
  | _ :: l => hasF n l
def altOf : List (Nat × Nat) → List AV → Disp
  | [],_ => .no
  | (n,i) :: l,vs => match vs with
    | .agg cs :: _ => (match hasF n cs with
      | true => .spec i
      | false => altOf l vs)
    | _ => .no
noncomputable def extL : List ((j : Nat) × (den (tyL ((look ptsL j).getD [])) → Option (den (tyL ((look rtsL j).getD []))))) := [⟨154,H.shortF⟩,⟨156,H.textDivF⟩,⟨159,H.cmpF⟩,⟨161,H.textF⟩,⟨168,trimLeftF⟩,⟨195,lz32F⟩,⟨205,len64F⟩]
noncomputable def CT : Ctx where
  ti := look tis
  fn := look fns
  disp := fun _ f vs => match inls.elem f with
    | true => .inl
    | false => match look altL f with
      | some l => altOf l vs
      | none => .spec f
  fid := fun i => match look fidL i with
    | some f => f
    | none => i
  pts := fun i => (look ptsL i).getD []
  rts := fun i => (look rtsL i).getD []
  ext := lookE extL
  ann := fun i f p => match look annL i with
    | some l => match lookP l f p with
      | some a => some a
      | none => lookP closedAnn f p
    | none => lookP closedAnn f p
  inv := Inv
  io := fun i => ioL.elem i
  rd := fun i => (look rdL i).getD []
noncomputable section
abbrev divide_DivMod (x0 x1 : List UInt8) : Option (List UInt8 × List UInt8 × Int) := (top CT).callF 108 (x0,x1)
abbrev divide_DivMod_1 (a1 a2 : List Int) : Option (List UInt8 × List UInt8 × Int) := (top CT).stage 108 [] 108 [1,1,1] { env := [(7,(.sl (.int .u32) a1 false)),(8,(.sl (.int .u32) a2 false))],heap := [],salt := 0 }
abbrev nat_Cmp (x0 x1 : List UInt8) : Option (Int) := (top CT).callF 112 (x0,x1)
abbrev nat_Add (x0 x1 : List UInt8) : Option (List UInt8) := (top CT).callF 113 (x0,x1)
abbrev nat_Add_1 (a1 a2 : List Int) (a3 a4 a5 : Int) (a6 : List Int) : Option (List UInt8) := (top CT).stage 113 [] 113 [0,1,0,1,1,1,1] { env := [(5,(.sl (.int .u32) a1 false)),(6,(.sl (.int .u32) a2 false)),(7,(.who 1099511627776 false)),(8,(.int .u64 a3)),(19,(.int .i64 a4)),(20,(.int .i64 a5))],heap := [(1099511627776,.arr (.int .u32) a6)],salt := 0 }
abbrev nat_Small (x0 : List UInt8) : Option (Int × Bool) := (top CT).callF 151 (x0)
abbrev divide_read (x0 : List UInt8) : Option (List Int) := (top CT).callF 152 (x0)
abbrev divide_read_1 (a1 : List UInt8) (a2 : List Int) : Option (List Int) := (top CT).stage 152 [] 152 [0,1,0,1,1] { env := [(0,(.str a1)),(3,(.who 1099511627784 false))],heap := [(1099511627784,.arr (.int .u32) a2)],salt := 0 }
abbrev nat_Trim (x0 : List UInt8) : Option (List UInt8) := (top CT).callF 153 (x0)
abbrev divide_limbs_short (x0 : List Int) (x1 : Int) : Option (List Int × List Int) := (top CT).callF 154 (x0,x1)
abbrev divide_limbs_long (x0 x1 : List Int) : Option (List Int × List Int) := (top CT).callF 155 (x0,x1)
abbrev divide_limbs_long_1 (a1 : List Int) (a2 a3 a4 : Int) (a5 a6 : List Int) : Option (List Int × List Int) := (top CT).stage 155 [] 155 [0,1,0,1,1,1,1,1,1] { env := [(1,(.sl (.int .u32) a1 false)),(6,(.int .i64 a2)),(7,(.who 1099511627785 false)),(8,(.int .i64 a3)),(9,(.who 1099511627786 false)),(10,(.int .i64 a4))],heap := [(1099511627785,.arr (.int .u32) a5),(1099511627786,.arr (.int .u32) a6)],salt := 0 }
abbrev divide_limbs_long_2 (a1 : List Int) (a2 a3 : Int) (a4 a5 a6 : List Int) (a7 a8 a9 a10 : Int) : Option (List Int × List Int) := (top CT).stage 155 [{ f := 155,path := [0,0,1,0,0,1,0,0,1,0,1,1,1,1,1,1],op := 4,rest := [5],env := [(1,(.sl (.int .u32) a6 false)),(6,(.int .i64 a7)),(7,(.who 1099511627785 false)),(8,(.int .i64 a8)),(9,(.who 1099511627786 false)),(10,(.int .i64 a9)),(11,(.int .u64 a10))],salt := 0 }] 198 [] { env := [(0,(.who 1099511627785 false)),(1,(.sl (.int .u32) a1 false)),(2,(.int .u64 a2)),(3,(.int .i64 a3))],heap := [(1099511627785,.arr (.int .u32) a4),(1099511627786,.arr (.int .u32) a5)],salt := 85 }
abbrev divide_limbs_long_3 (a1 : List Int) (a2 a3 a4 a5 a6 a7 : Int) (a8 a9 a10 : List Int) (a11 a12 a13 a14 : Int) : Option (List Int × List Int) := (top CT).stage 155 [{ f := 155,path := [0,0,1,0,0,1,0,0,1,0,1,1,1,1,1,1],op := 4,rest := [5],env := [(1,(.sl (.int .u32) a10 false)),(6,(.int .i64 a11)),(7,(.who 1099511627785 false)),(8,(.int .i64 a12)),(9,(.who 1099511627786 false)),(10,(.int .i64 a13)),(11,(.int .u64 a14))],salt := 0 }] 198 [0,1,0,1,1] { env := [(0,(.who 1099511627785 false)),(1,(.sl (.int .u32) a1 false)),(2,(.int .u64 a2)),(3,(.int .i64 a3)),(9,(.int .u64 a4)),(10,(.int .u64 a5)),(16,(.int .i64 a6)),(17,(.int .i64 a7))],heap := [(1099511627785,.arr (.int .u32) a8),(1099511627786,.arr (.int .u32) a9)],salt := 85 }
abbrev divide_limbs_long_4 (a1 : List Int) (a2 : Int) (a3 a4 a5 : List Int) (a6 a7 a8 a9 : Int) : Option (List Int × List Int) := (top CT).stage 155 [{ f := 155,path := [1,0,1,0,1,0,0,1,0,0,1,0,1,1,1,1,1,1],op := 3,rest := [],env := [(1,(.sl (.int .u32) a5 false)),(6,(.int .i64 a6)),(7,(.who 1099511627785 false)),(8,(.int .i64 a7)),(9,(.who 1099511627786 false)),(10,(.int .i64 a8)),(11,(.int .u64 a9))],salt := 0 }] 199 [] { env := [(0,(.who 1099511627785 false)),(1,(.sl (.int .u32) a1 false)),(2,(.int .i64 a2))],heap := [(1099511627785,.arr (.int .u32) a3),(1099511627786,.arr (.int .u32) a4)],salt := 92 }
abbrev divide_limbs_long_5 (a1 : List Int) (a2 a3 a4 a5 : Int) (a6 a7 a8 : List Int) (a9 a10 a11 a12 : Int) : Option (List Int × List Int) := (top CT).stage 155 [{ f := 155,path := [1,0,1,0,1,0,0,1,0,0,1,0,1,1,1,1,1,1],op := 3,rest := [],env := [(1,(.sl (.int .u32) a8 false)),(6,(.int .i64 a9)),(7,(.who 1099511627785 false)),(8,(.int .i64 a10)),(9,(.who 1099511627786 false)),(10,(.int .i64 a11)),(11,(.int .u64 a12))],salt := 0 }] 199 [0,1,0,1] { env := [(0,(.who 1099511627785 false)),(1,(.sl (.int .u32) a1 false)),(2,(.int .i64 a2)),(6,(.int .u64 a3)),(10,(.int .i64 a4)),(11,(.int .i64 a5))],heap := [(1099511627785,.arr (.int .u32) a6),(1099511627786,.arr (.int .u32) a7)],salt := 92 }
abbrev divide_limbs_text (x0 : List Int) : Option (List UInt8) := (top CT).callF 156 (x0)
abbrev nat_read (x0 : List UInt8) : Option (List Int) := (top CT).callF 158 (x0)
abbrev nat_read_1 (a1 : List UInt8) (a2 : List Int) : Option (List Int) := (top CT).stage 158 [] 158 [0,0,1,1] { env := [(0,(.str a1)),(3,(.who 1099511627782 false))],heap := [(1099511627782,.arr (.int .u32) a2)],salt := 0 }
abbrev nat_read_2 (a1 : List UInt8) (a2 a3 : Int) (a4 : List Int) (a5 a6 : Int) (a7 : List Int) : Option (List Int) := (top CT).stage 158 [] 158 [0,1,0,1,1,0,1,0,0,0,1,1] { env := [(0,(.str a1)),(3,(.who 1099511627783 false)),(4,(.int .i64 a2)),(5,(.int .u32 a3)),(18,(.sl (.int .u8) a4 false)),(19,(.int .i64 a5)),(20,(.int .i64 a6))],heap := [(1099511627783,.arr (.int .u32) a7)],salt := 0 }
abbrev nat_limbs_cmp (x0 x1 : List Int) : Option (Int) := (top CT).callF 159 (x0,x1)
abbrev nat_limbs_at (x0 : List Int) (x1 : Int) : Option (Int) := (top CT).callF 160 (x0,x1)
abbrev nat_limbs_text (x0 : List Int) : Option (List UInt8) := (top CT).callF 161 (x0)
abbrev divide_Pow (x0 : List UInt8) (x1 : Int) : Option (List UInt8 × Int) := (top CT).callF 162 (x0,x1)
abbrev divide_Pow_1 (a1 : List UInt8) (a2 : Int) (a3 : Bool) : Option (List UInt8 × Int) := (top CT).stage 162 [] 162 [1,1,1,1,1,0,1,0,1] { env := [(0,(.str a1)),(1,(.int .i64 a2)),(18,(.bool a3))],heap := [],salt := 0 }
abbrev divide_Pow_2 (a1 : List UInt8) (a2 a3 : Int) (a4 : List UInt8) : Option (List UInt8 × Int) := (top CT).stage 162 [] 162 [0,1,0,1,1,1,1] { env := [(0,(.str a1)),(1,(.int .i64 a2)),(6,(.ptr 96 0)),(7,(.func 204 [] [(.ptr 96 0)])),(8,(.int .i64 a3))],heap := [(96,.box [(.str a4)])],salt := 0 }
abbrev divide_Pow_3 (a1 a2 a3 : List UInt8) (a4 a5 : Int) : Option (List UInt8 × Int) := (top CT).stage 162 [{ f := 162,path := [0,0,0,1,0,0,1,0,1,1,1,1],op := 2,rest := [3,4,5,6,7,8,9,10,11,12,13,14,15,16],env := [(0,(.str a3)),(1,(.int .i64 a4)),(6,(.ptr 96 0)),(7,(.func 204 [] [(.ptr 96 0)])),(8,(.int .i64 a5))],salt := 0 }] 204 [] { env := [(0,(.str a1)),(1,(.ptr 96 0))],heap := [(96,.box [(.str a2)])],salt := 43 }
abbrev divide_Pow_4 (a1 : List UInt8) (a2 a3 : Int) (a4 : Bool) (a5 : List UInt8) : Option (List UInt8 × Int) := (top CT).stage 162 [] 162 [1,0,0,1,0,0,1,0,1,1,1,1] { env := [(0,(.str a1)),(1,(.int .i64 a2)),(6,(.ptr 96 0)),(7,(.func 204 [] [(.ptr 96 0)])),(8,(.int .i64 a3)),(56,(.bool a4))],heap := [(96,.box [(.str a5)])],salt := 0 }
abbrev divide_Pow_5 (a1 a2 a3 : List UInt8) (a4 a5 : Int) (a6 a7 : Bool) : Option (List UInt8 × Int) := (top CT).stage 162 [{ f := 162,path := [0,0,0,1,0,0,1,0,1,1,1,1],op := 13,rest := [14,15,16],env := [(0,(.str a3)),(1,(.int .i64 a4)),(6,(.ptr 96 0)),(7,(.func 204 [] [(.ptr 96 0)])),(8,(.int .i64 a5)),(44,(.bool a6)),(50,(.bool a7))],salt := 0 }] 204 [] { env := [(0,(.str a1)),(1,(.ptr 96 0))],heap := [(96,.box [(.str a2)])],salt := 54 }
abbrev nat_Of (x0 : Int) : Option (List UInt8) := (top CT).callF 163 (x0)
abbrev nat_Mul (x0 x1 : List UInt8) : Option (List UInt8) := (top CT).callF 164 (x0,x1)
abbrev nat_Mul_1 (a1 a2 : List Int) (a3 a4 : Int) (a5 : List Int) : Option (List UInt8) := (top CT).stage 164 [] 164 [0,1,0,1,1,1] { env := [(5,(.sl (.int .u32) a1 false)),(6,(.sl (.int .u32) a2 false)),(7,(.who 1099511627777 false)),(23,(.int .i64 a3)),(24,(.int .i64 a4))],heap := [(1099511627777,.arr (.int .u32) a5)],salt := 0 }
abbrev nat_Mul_2 (a1 a2 : List Int) (a3 a4 a5 a6 a7 a8 : Int) (a9 : List Int) : Option (List UInt8) := (top CT).stage 164 [] 164 [0,1,0,1,1,0,0,1,1,0,0,1,0,1,1,1] { env := [(5,(.sl (.int .u32) a1 false)),(6,(.sl (.int .u32) a2 false)),(7,(.who 1099511627778 false)),(8,(.int .i64 a3)),(9,(.int .u64 a4)),(23,(.int .i64 a5)),(24,(.int .i64 a6)),(28,(.int .i64 a7)),(29,(.int .i64 a8))],heap := [(1099511627778,.arr (.int .u32) a9)],salt := 0 }
abbrev strings_TrimLeft (x0 x1 : List UInt8) : Option (List UInt8) := (top CT).callF 168 (x0,x1)
abbrev divide_Gcd (x0 x1 : List UInt8) : Option (List UInt8) := (top CT).callF 179 (x0,x1)
abbrev divide_Gcd_1 (a1 a2 : List UInt8) : Option (List UInt8) := (top CT).stage 179 [] 179 [0,0,1,1] { env := [(0,(.str a1)),(1,(.str a2))],heap := [],salt := 0 }
abbrev math_bits_LeadingZeros32 (x0 : Int) : Option (Int) := (top CT).callF 195 (x0)
abbrev divide_limbs_shifted (x0 : List Int) (x1 : Int) : Option (List Int) := (top CT).callF 196 (x0,x1)
abbrev divide_limbs_shifted_1 (a1 : List Int) (a2 a3 : Int) (a4 : List Int) (a5 a6 : Int) (a7 : List Int) : Option (List Int) := (top CT).stage 196 [] 196 [0,1,0,1,1,1] { env := [(0,(.sl (.int .u32) a1 false)),(1,(.int .i64 a2)),(5,(.who 1099511627788 false)),(6,(.int .u64 a3)),(14,(.sl (.int .u32) a4 false)),(15,(.int .i64 a5)),(16,(.int .i64 a6))],heap := [(1099511627788,.arr (.int .u32) a7)],salt := 0 }
abbrev divide_guess (x0 x1 x2 x3 x4 : Int) : Option (Int) := (top CT).callF 197 (x0,x1,x2,x3,x4)
abbrev divide_guess_1 (a1 a2 a3 a4 a5 : Int) : Option (Int) := (top CT).stage 197 [] 197 [0,0,1,1,1,0,1] { env := [(2,(.int .u64 a1)),(3,(.int .u64 a2)),(4,(.int .u64 a3)),(12,(.int .u64 a4)),(13,(.int .u64 a5))],heap := [],salt := 0 }
abbrev divide_guess_2 (a1 a2 a3 a4 a5 : Int) (a6 : Bool) : Option (Int) := (top CT).stage 197 [] 197 [1,0,0,0,0,1,1,1,0,1] { env := [(2,(.int .u64 a1)),(3,(.int .u64 a2)),(4,(.int .u64 a3)),(12,(.int .u64 a4)),(13,(.int .u64 a5)),(36,(.bool a6))],heap := [],salt := 0 }
abbrev divide_limbs_back (x0 : List Int) (x1 : Int) : Option (List Int) := (top CT).callF 200 (x0,x1)
abbrev divide_limbs_back_1 (a1 : List Int) (a2 a3 a4 : Int) (a5 : List Int) : Option (List Int) := (top CT).stage 200 [] 200 [0,1,0,1,1] { env := [(0,(.sl (.int .u32) a1 false)),(1,(.int .i64 a2)),(5,(.who 1099511627789 false)),(12,(.int .i64 a3)),(13,(.int .i64 a4))],heap := [(1099511627789,.arr (.int .u32) a5)],salt := 0 }
abbrev divide_limbs_back_2 (a1 : List Int) (a2 a3 a4 a5 a6 : Int) (a7 : List Int) : Option (List Int) := (top CT).stage 200 [] 200 [1,1,1,0,0,1,1,0,0,1,0,1,1] { env := [(0,(.sl (.int .u32) a1 false)),(1,(.int .i64 a2)),(5,(.who 1099511627790 false)),(6,(.int .i64 a3)),(7,(.int .u64 a4)),(12,(.int .i64 a5)),(13,(.int .i64 a6))],heap := [(1099511627790,.arr (.int .u32) a7)],salt := 0 }
abbrev nat_limbs_cut (x0 : List Int) : Option (List Int) := (top CT).callF 201 (x0)
abbrev nat_limbs_cut_1 (a1 : List Int) : Option (List Int) := (top CT).stage 201 [] 201 [0,0,1] { env := [(0,(.sl (.int .u32) a1 false))],heap := [],salt := 0 }
abbrev nat_limbs_cut_2 (a1 : List Int) (a2 : Bool) : Option (List Int) := (top CT).stage 201 [] 201 [1,0,0,0,0,1] { env := [(0,(.sl (.int .u32) a1 false)),(14,(.bool a2))],heap := [],salt := 0 }
abbrev math_bits_Len (x0 : Int) : Option (Int) := (top CT).callF 205 (x0)
end
end Go.Proofs.YtpdfjgooaaailaaGreatDoor.C
set_option maxRecDepth 100000
namespace Go.Proofs.YtpdfjgooaaailaaGreatDoor.C
open Go Go.Proofs.YtpdfjgooaaailaaGreatDoor.K
theorem nat_Trim_eq (x0 : List UInt8) : nat_Trim x0 = (strings_TrimLeft x0 ([0] : List UInt8)).bind fun v1 => some v1 := (top_call ..).trans (by kernel_rfl)
theorem nat_Of_eq (x0 : Int) : nat_Of x0 = cond (decide (0 ≤ 32)) ((nat_limbs_text [IntKind.u32.wrap x0,IntKind.u32.wrap (x0.fdiv (2 ^ min 32 IntKind.u64.bits))]).bind fun v1 => some v1) none := (top_call ..).trans (by kernel_rfl)
theorem nat_Small_eq (x0 : List UInt8) : nat_Small x0 = (nat_read x0).bind fun v1 => cond (decide ((v1.length : Int) > 2)) (some (0,false)) ((nat_limbs_at v1 1).bind fun v2 => cond (decide (0 ≤ 32)) ((nat_limbs_at v1 0).bind fun v3 => some (bitop .or .u64 (IntKind.u64.wrap (v2 * 2 ^ min 32 IntKind.u64.bits)) v3,true)) none) := (top_call ..).trans (by kernel_rfl)
theorem nat_Add_eq (x0 x1 : List UInt8) : nat_Add x0 x1 = (nat_read x0).bind fun v1 => (nat_read x1).bind fun v2 => nat_Add_1 v1 v2 0 (max (v1.length : Int) (v2.length : Int)) 0 [] := (top_call ..).trans (by kernel_rfl)
theorem nat_Add_1_eq (a1 a2 : List Int) (a3 a4 a5 : Int) (a6 : List Int) : nat_Add_1 a1 a2 a3 a4 a5 a6 = cond (decide (a5 < a4)) ((nat_limbs_at a1 a5).bind fun v1 => (nat_limbs_at a2 a5).bind fun v2 => cond (Nat.ble ((a6.length + [IntKind.u32.wrap (IntKind.u64.wrap ((IntKind.u64.wrap (v1 + v2)) + a3))].length) * 4) 140737488355328) (cond (decide (0 ≤ 32)) (nat_Add_1 a1 a2 ((IntKind.u64.wrap ((IntKind.u64.wrap (v1 + v2)) + a3)).fdiv (2 ^ min 32 IntKind.u64.bits)) a4 (IntKind.i64.wrap (a5 + 1)) (a6 ++ [IntKind.u32.wrap (IntKind.u64.wrap ((IntKind.u64.wrap (v1 + v2)) + a3))])) none) none) (cond (Nat.ble ((a6.length + [IntKind.u32.wrap a3].length) * 4) 140737488355328) ((nat_limbs_text (a6 ++ [IntKind.u32.wrap a3])).bind fun v3 => some v3) none) := (top_stage ..).trans (by kernel_rfl)
theorem nat_Mul_eq (x0 x1 : List UInt8) : nat_Mul x0 x1 = (nat_read x0).bind fun v1 => (nat_read x1).bind fun v2 => cond (decide (0 ≤ (IntKind.i64.wrap ((v1.length : Int) + (v2.length : Int)))) && (decide ((IntKind.i64.wrap ((v1.length : Int) + (v2.length : Int))) ≤ (IntKind.i64.wrap ((v1.length : Int) + (v2.length : Int)))) && decide (((4 : Nat) : Int) * (IntKind.i64.wrap ((v1.length : Int) + (v2.length : Int))) ≤ 281474976710656))) (nat_Mul_1 v1 v2 (v1.length : Int) 0 (List.replicate ((IntKind.i64.wrap ((v1.length : Int) + (v2.length : Int))).toNat) 0)) none := (top_call ..).trans (by kernel_rfl)
theorem nat_Mul_1_eq (a1 a2 : List Int) (a3 a4 : Int) (a5 : List Int) : nat_Mul_1 a1 a2 a3 a4 a5 = cond (decide (a4 < a3)) (nat_Mul_2 a1 a2 a4 0 a3 a4 (a2.length : Int) 0 a5) ((nat_limbs_text a5).bind fun v1 => some v1) := (top_stage ..).trans (by kernel_rfl)
theorem nat_Mul_2_eq (a1 a2 : List Int) (a3 a4 a5 a6 a7 a8 : Int) (a9 : List Int) : nat_Mul_2 a1 a2 a3 a4 a5 a6 a7 a8 a9 = cond (decide (a8 < a7)) ((nat_limbs_at a1 a3).bind fun v1 => (nat_limbs_at a2 a8).bind fun v2 => (nat_limbs_at a9 (IntKind.i64.wrap (a3 + a8))).bind fun v3 => cond (decide (0 ≤ (IntKind.i64.wrap (a3 + a8))) && decide ((IntKind.i64.wrap (a3 + a8)) < (a9.length : Int))) (cond (decide (0 ≤ 32)) (nat_Mul_2 a1 a2 a3 ((IntKind.u64.wrap ((IntKind.u64.wrap ((IntKind.u64.wrap (v1 * v2)) + v3)) + a4)).fdiv (2 ^ min 32 IntKind.u64.bits)) a5 a6 a7 (IntKind.i64.wrap (a8 + 1)) (a9.set ((IntKind.i64.wrap (a3 + a8)).toNat) (IntKind.u32.wrap (IntKind.u64.wrap ((IntKind.u64.wrap ((IntKind.u64.wrap (v1 * v2)) + v3)) + a4))))) none) none) (cond (decide (0 ≤ (IntKind.i64.wrap (a3 + (a2.length : Int)))) && decide ((IntKind.i64.wrap (a3 + (a2.length : Int))) < (a9.length : Int))) (nat_Mul_1 a1 a2 a5 (IntKind.i64.wrap (a6 + 1)) (a9.set ((IntKind.i64.wrap (a3 + (a2.length : Int))).toNat) (IntKind.u32.wrap a4))) none) := (top_stage ..).trans (by kernel_rfl)
theorem nat_Cmp_eq (x0 x1 : List UInt8) : nat_Cmp x0 x1 = (nat_read x0).bind fun v1 => (nat_read x1).bind fun v2 => (nat_limbs_cmp v1 v2).bind fun v3 => some v3 := (top_call ..).trans (by kernel_rfl)
theorem divide_DivMod_eq (x0 x1 : List UInt8) : divide_DivMod x0 x1 = (divide_read x0).bind fun v1 => (divide_read x1).bind fun v2 => cond (decide ((v2.length : Int) = 0)) (some (([] : List UInt8),([] : List UInt8),5)) ((nat_Cmp x0 x1).bind fun v3 => cond (decide (v3 < 0)) ((nat_Trim x0).bind fun v4 => some (([] : List UInt8),v4,0)) (cond (decide ((v2.length : Int) = 1)) (cond (decide (0 ≤ 0) && decide (0 < (v2.length : Int))) ((divide_limbs_short v1 (v2.getD 0 0)).bind fun v5 => divide_DivMod_1 v5.1 v5.2) none) ((divide_limbs_long v1 v2).bind fun v6 => divide_DivMod_1 v6.1 v6.2))) := (top_call ..).trans (by kernel_rfl)
theorem divide_DivMod_1_eq (a1 a2 : List Int) : divide_DivMod_1 a1 a2 = (divide_limbs_text a1).bind fun v1 => (divide_limbs_text a2).bind fun v2 => some (v1,v2,0) := (top_stage ..).trans (by kernel_rfl)
theorem divide_Gcd_eq (x0 x1 : List UInt8) : divide_Gcd x0 x1 = (nat_Trim x0).bind fun v1 => (nat_Trim x1).bind fun v2 => divide_Gcd_1 v1 v2 := (top_call ..).trans (by kernel_rfl)
theorem divide_Gcd_1_eq (a1 a2 : List UInt8) : divide_Gcd_1 a1 a2 = cond (!decide (a2 = ([] : List UInt8))) ((divide_DivMod a1 a2).bind fun v1 => cond (!decide (v1.2.2 = 0)) (some a1) (divide_Gcd_1 a2 v1.2.1)) (some a1) := (top_stage ..).trans (by kernel_rfl)
theorem divide_Pow_eq (x0 : List UInt8) (x1 : Int) : divide_Pow x0 x1 = (nat_Trim x0).bind fun v1 => cond (decide (x1 < 0)) (some (([] : List UInt8),2)) (cond (decide (x1 = 0)) ((nat_Of 1).bind fun v2 => some (v2,0)) (cond (decide (v1 = ([] : List UInt8))) (divide_Pow_1 v1 x1 true) ((nat_Of 1).bind fun v3 => divide_Pow_1 v1 x1 (decide (v1 = v3))))) := (top_call ..).trans (by kernel_rfl)
theorem divide_Pow_1_eq (a1 : List UInt8) (a2 : Int) (a3 : Bool) : divide_Pow_1 a1 a2 a3 = cond a3 (some (a1,0)) (cond (decide (a2 > 8192)) (some (([] : List UInt8),9)) ((nat_Of 1).bind fun v1 => (math_bits_Len (IntKind.u64.wrap a2)).bind fun v2 => divide_Pow_2 a1 a2 (IntKind.i64.wrap (v2 - 1)) v1)) := (top_stage ..).trans (by kernel_rfl)
theorem divide_Pow_2_eq (a1 : List UInt8) (a2 a3 : Int) (a4 : List UInt8) : divide_Pow_2 a1 a2 a3 a4 = cond (decide (a3 ≥ 0)) (divide_Pow_3 a4 a4 a1 a2 a3) (some (a4,0)) := (top_stage ..).trans (by kernel_rfl)
theorem divide_Pow_3_eq (a1 a2 a3 : List UInt8) (a4 a5 : Int) : divide_Pow_3 a1 a2 a3 a4 a5 = (nat_Mul a2 a1).bind fun v1 => cond (!(decide ((v1.length : Int) ≤ 1024))) (divide_Pow_4 a3 a4 a5 true v1) (cond (decide (0 ≤ a5)) (cond (decide ((bitop .and .i64 (a4.fdiv (2 ^ min a5.toNat IntKind.i64.bits)) 1) = 1)) (divide_Pow_5 a3 v1 a3 a4 a5 false true) (divide_Pow_4 a3 a4 a5 false v1)) none) := (top_stage ..).trans (by kernel_rfl)
theorem divide_Pow_4_eq (a1 : List UInt8) (a2 a3 : Int) (a4 : Bool) (a5 : List UInt8) : divide_Pow_4 a1 a2 a3 a4 a5 = cond a4 (some (([] : List UInt8),9)) (divide_Pow_2 a1 a2 (IntKind.i64.wrap (a3 - 1)) a5) := (top_stage ..).trans (by kernel_rfl)
theorem divide_Pow_5_eq (a1 a2 a3 : List UInt8) (a4 a5 : Int) (a6 a7 : Bool) : divide_Pow_5 a1 a2 a3 a4 a5 a6 a7 = (nat_Mul a2 a1).bind fun v1 => cond a7 (cond a6 (divide_Pow_4 a3 a4 a5 true v1) (divide_Pow_4 a3 a4 a5 (!(decide ((v1.length : Int) ≤ 1024))) v1)) (cond a6 (divide_Pow_4 a3 a4 a5 true v1) (divide_Pow_4 a3 a4 a5 false v1)) := (top_stage ..).trans (by kernel_rfl)
theorem nat_read_eq (x0 : List UInt8) : nat_read x0 = nat_read_1 x0 [] := (top_call ..).trans (by kernel_rfl)
theorem nat_read_1_eq (a1 : List UInt8) (a2 : List Int) : nat_read_1 a1 a2 = cond (decide ((a1.length : Int) > 0)) (cond (decide (0 ≤ (max 0 (IntKind.i64.wrap ((a1.length : Int) - 4)))) && decide ((max 0 (IntKind.i64.wrap ((a1.length : Int) - 4))) ≤ (a1.length : Int))) (nat_read_2 a1 (max 0 (IntKind.i64.wrap ((a1.length : Int) - 4))) 0 ((a1.drop ((max 0 (IntKind.i64.wrap ((a1.length : Int) - 4))).toNat)).map fun b => (b.toNat : Int)) (((a1.drop ((max 0 (IntKind.i64.wrap ((a1.length : Int) - 4))).toNat)).map fun b => (b.toNat : Int)).length : Int) 0 a2) none) ((nat_limbs_cut a2).bind fun v1 => some v1) := (top_stage ..).trans (by kernel_rfl)
theorem nat_read_2_eq (a1 : List UInt8) (a2 a3 : Int) (a4 : List Int) (a5 a6 : Int) (a7 : List Int) : nat_read_2 a1 a2 a3 a4 a5 a6 a7 = cond (decide (a6 < a5)) (cond (decide (0 ≤ a6) && decide (a6 < (a4.length : Int))) (cond (decide (0 ≤ 8)) (nat_read_2 a1 a2 (bitop .or .u32 (IntKind.u32.wrap (a3 * 2 ^ min 8 IntKind.u32.bits)) (IntKind.u32.wrap (a4.getD a6.toNat 0))) a4 a5 (IntKind.i64.wrap (a6 + 1)) a7) none) none) (cond (Nat.ble ((a7.length + [a3].length) * 4) 140737488355328) (cond (decide (0 ≤ a2) && decide (a2 ≤ (a1.length : Int))) (nat_read_1 (a1.take a2.toNat) (a7 ++ [a3])) none) none) := (top_stage ..).trans (by kernel_rfl)
theorem nat_limbs_at_eq (x0 : List Int) (x1 : Int) : nat_limbs_at x0 x1 = cond (decide (x1 ≥ (x0.length : Int))) (some 0) (cond (decide (0 ≤ x1) && decide (x1 < (x0.length : Int))) (some (IntKind.u64.wrap (x0.getD x1.toNat 0))) none) := (top_call ..).trans (by kernel_rfl)
theorem divide_read_eq (x0 : List UInt8) : divide_read x0 = (nat_Trim x0).bind fun v1 => divide_read_1 v1 [] := (top_call ..).trans (by kernel_rfl)
theorem divide_read_1_eq (a1 : List UInt8) (a2 : List Int) : divide_read_1 a1 a2 = cond (decide ((a1.length : Int) > 0)) (cond (decide (0 ≤ (max 0 (IntKind.i64.wrap ((a1.length : Int) - 4)))) && decide ((max 0 (IntKind.i64.wrap ((a1.length : Int) - 4))) ≤ (a1.length : Int))) ((nat_Small (a1.drop ((max 0 (IntKind.i64.wrap ((a1.length : Int) - 4))).toNat))).bind fun v1 => cond (Nat.ble ((a2.length + [IntKind.u32.wrap v1.1].length) * 4) 140737488355328) (cond (decide (0 ≤ (max 0 (IntKind.i64.wrap ((a1.length : Int) - 4)))) && decide ((max 0 (IntKind.i64.wrap ((a1.length : Int) - 4))) ≤ (a1.length : Int))) (divide_read_1 (a1.take ((max 0 (IntKind.i64.wrap ((a1.length : Int) - 4))).toNat)) (a2 ++ [IntKind.u32.wrap v1.1])) none) none) none) (some a2) := (top_stage ..).trans (by kernel_rfl)
theorem divide_limbs_long_eq (x0 x1 : List Int) : divide_limbs_long x0 x1 = cond (decide (0 ≤ (IntKind.i64.wrap ((x1.length : Int) - 1))) && decide ((IntKind.i64.wrap ((x1.length : Int) - 1)) < (x1.length : Int))) ((math_bits_LeadingZeros32 (x1.getD ((IntKind.i64.wrap ((x1.length : Int) - 1)).toNat) 0)).bind fun v1 => (divide_limbs_shifted x0 v1).bind fun v2 => (divide_limbs_shifted x1 v1).bind fun v3 => cond (decide (0 ≤ (x1.length : Int)) && decide ((x1.length : Int) ≤ (v3.length : Int))) (cond (decide (0 ≤ (IntKind.i64.wrap ((IntKind.i64.wrap ((x0.length : Int) - ((((x1.length : Int).toNat) - 0) : Int))) + 1))) && (decide ((IntKind.i64.wrap ((IntKind.i64.wrap ((x0.length : Int) - ((((x1.length : Int).toNat) - 0) : Int))) + 1)) ≤ (IntKind.i64.wrap ((IntKind.i64.wrap ((x0.length : Int) - ((((x1.length : Int).toNat) - 0) : Int))) + 1))) && decide (((4 : Nat) : Int) * (IntKind.i64.wrap ((IntKind.i64.wrap ((x0.length : Int) - ((((x1.length : Int).toNat) - 0) : Int))) + 1)) ≤ 281474976710656))) (divide_limbs_long_1 ((v3.drop 0).take (((x1.length : Int).toNat) - 0)) v1 ((((x1.length : Int).toNat) - 0) : Int) (IntKind.i64.wrap ((x0.length : Int) - ((((x1.length : Int).toNat) - 0) : Int))) v2 (List.replicate ((IntKind.i64.wrap ((IntKind.i64.wrap ((x0.length : Int) - ((((x1.length : Int).toNat) - 0) : Int))) + 1)).toNat) 0)) none) none) none := (top_call ..).trans (by kernel_rfl)
theorem divide_limbs_long_1_eq (a1 : List Int) (a2 a3 a4 : Int) (a5 a6 : List Int) : divide_limbs_long_1 a1 a2 a3 a4 a5 a6 = cond (decide (a4 ≥ 0)) (cond (decide (0 ≤ (IntKind.i64.wrap (a4 + a3))) && decide ((IntKind.i64.wrap (a4 + a3)) < (a5.length : Int))) (cond (decide (0 ≤ (IntKind.i64.wrap ((IntKind.i64.wrap (a4 + a3)) - 1))) && decide ((IntKind.i64.wrap ((IntKind.i64.wrap (a4 + a3)) - 1)) < (a5.length : Int))) (cond (decide (0 ≤ (IntKind.i64.wrap ((IntKind.i64.wrap (a4 + a3)) - 2))) && decide ((IntKind.i64.wrap ((IntKind.i64.wrap (a4 + a3)) - 2)) < (a5.length : Int))) (cond (decide (0 ≤ (IntKind.i64.wrap (a3 - 1))) && decide ((IntKind.i64.wrap (a3 - 1)) < (a1.length : Int))) (cond (decide (0 ≤ (IntKind.i64.wrap (a3 - 2))) && decide ((IntKind.i64.wrap (a3 - 2)) < (a1.length : Int))) ((divide_guess (IntKind.u64.wrap (a5.getD ((IntKind.i64.wrap (a4 + a3)).toNat) 0)) (IntKind.u64.wrap (a5.getD ((IntKind.i64.wrap ((IntKind.i64.wrap (a4 + a3)) - 1)).toNat) 0)) (IntKind.u64.wrap (a5.getD ((IntKind.i64.wrap ((IntKind.i64.wrap (a4 + a3)) - 2)).toNat) 0)) (IntKind.u64.wrap (a1.getD ((IntKind.i64.wrap (a3 - 1)).toNat) 0)) (IntKind.u64.wrap (a1.getD ((IntKind.i64.wrap (a3 - 2)).toNat) 0))).bind fun v1 => divide_limbs_long_2 a1 v1 a4 a5 a6 a1 a2 a3 a4 v1) none) none) none) none) none) (cond (decide (0 ≤ a3) && decide (a3 ≤ (a5.length : Int))) ((divide_limbs_back ((a5.drop 0).take (a3.toNat - 0)) a2).bind fun v2 => some (a6,v2)) none) := (top_stage ..).trans (by kernel_rfl)
theorem divide_limbs_long_2_eq (a1 : List Int) (a2 a3 : Int) (a4 a5 a6 : List Int) (a7 a8 a9 a10 : Int) : divide_limbs_long_2 a1 a2 a3 a4 a5 a6 a7 a8 a9 a10 = divide_limbs_long_3 a1 a2 a3 0 0 (a1.length : Int) 0 a4 a5 a6 a7 a8 a9 a10 := (top_stage ..).trans (by kernel_rfl)
theorem divide_limbs_long_3_eq (a1 : List Int) (a2 a3 a4 a5 a6 a7 : Int) (a8 a9 a10 : List Int) (a11 a12 a13 a14 : Int) : divide_limbs_long_3 a1 a2 a3 a4 a5 a6 a7 a8 a9 a10 a11 a12 a13 a14 = cond (decide (a7 < a6)) (cond (decide (0 ≤ a7) && decide (a7 < (a1.length : Int))) (cond (decide (0 ≤ 32)) (cond (decide (0 ≤ (IntKind.i64.wrap (a3 + a7))) && decide ((IntKind.i64.wrap (a3 + a7)) < (a8.length : Int))) (cond (decide (0 ≤ (IntKind.i64.wrap (a3 + a7))) && decide ((IntKind.i64.wrap (a3 + a7)) < (a8.length : Int))) (cond (decide (0 ≤ 63)) (divide_limbs_long_3 a1 a2 a3 ((IntKind.u64.wrap ((IntKind.u64.wrap (a2 * (IntKind.u64.wrap (a1.getD a7.toNat 0)))) + a4)).fdiv (2 ^ min 32 IntKind.u64.bits)) ((IntKind.u64.wrap ((IntKind.u64.wrap ((IntKind.u64.wrap (a8.getD ((IntKind.i64.wrap (a3 + a7)).toNat) 0)) - (bitop .and .u64 (IntKind.u64.wrap ((IntKind.u64.wrap (a2 * (IntKind.u64.wrap (a1.getD a7.toNat 0)))) + a4)) 4294967295))) - a5)).fdiv (2 ^ min 63 IntKind.u64.bits)) a6 (IntKind.i64.wrap (a7 + 1)) (a8.set ((IntKind.i64.wrap (a3 + a7)).toNat) (IntKind.u32.wrap (IntKind.u64.wrap ((IntKind.u64.wrap ((IntKind.u64.wrap (a8.getD ((IntKind.i64.wrap (a3 + a7)).toNat) 0)) - (bitop .and .u64 (IntKind.u64.wrap ((IntKind.u64.wrap (a2 * (IntKind.u64.wrap (a1.getD a7.toNat 0)))) + a4)) 4294967295))) - a5)))) a9 a10 a11 a12 a13 a14) none) none) none) none) none) (cond (decide (0 ≤ (IntKind.i64.wrap (a3 + (a1.length : Int)))) && decide ((IntKind.i64.wrap (a3 + (a1.length : Int))) < (a8.length : Int))) (cond (decide (0 ≤ (IntKind.i64.wrap (a3 + (a1.length : Int)))) && decide ((IntKind.i64.wrap (a3 + (a1.length : Int))) < (a8.length : Int))) (cond (decide (0 ≤ 63)) (cond (!(decide (((IntKind.u64.wrap ((IntKind.u64.wrap ((IntKind.u64.wrap (a8.getD ((IntKind.i64.wrap (a3 + (a1.length : Int))).toNat) 0)) - a4)) - a5)).fdiv (2 ^ min 63 IntKind.u64.bits)) = 0))) (divide_limbs_long_4 a10 a13 (a8.set ((IntKind.i64.wrap (a3 + (a1.length : Int))).toNat) (IntKind.u32.wrap (IntKind.u64.wrap ((IntKind.u64.wrap ((IntKind.u64.wrap (a8.getD ((IntKind.i64.wrap (a3 + (a1.length : Int))).toNat) 0)) - a4)) - a5)))) a9 a10 a11 a12 a13 (IntKind.u64.wrap (a14 - 1))) (cond (decide (0 ≤ a13) && decide (a13 < (a9.length : Int))) (divide_limbs_long_1 a10 a11 a12 (IntKind.i64.wrap (a13 - 1)) (a8.set ((IntKind.i64.wrap (a3 + (a1.length : Int))).toNat) (IntKind.u32.wrap (IntKind.u64.wrap ((IntKind.u64.wrap ((IntKind.u64.wrap (a8.getD ((IntKind.i64.wrap (a3 + (a1.length : Int))).toNat) 0)) - a4)) - a5)))) (a9.set a13.toNat (IntKind.u32.wrap a14))) none)) none) none) none) := (top_stage ..).trans (by kernel_rfl)
theorem divide_limbs_long_4_eq (a1 : List Int) (a2 : Int) (a3 a4 a5 : List Int) (a6 a7 a8 a9 : Int) : divide_limbs_long_4 a1 a2 a3 a4 a5 a6 a7 a8 a9 = divide_limbs_long_5 a1 a2 0 (a1.length : Int) 0 a3 a4 a5 a6 a7 a8 a9 := (top_stage ..).trans (by kernel_rfl)
theorem divide_limbs_long_5_eq (a1 : List Int) (a2 a3 a4 a5 : Int) (a6 a7 a8 : List Int) (a9 a10 a11 a12 : Int) : divide_limbs_long_5 a1 a2 a3 a4 a5 a6 a7 a8 a9 a10 a11 a12 = cond (decide (a5 < a4)) (cond (decide (0 ≤ (IntKind.i64.wrap (a2 + a5))) && decide ((IntKind.i64.wrap (a2 + a5)) < (a6.length : Int))) (cond (decide (0 ≤ a5) && decide (a5 < (a1.length : Int))) (cond (decide (0 ≤ (IntKind.i64.wrap (a2 + a5))) && decide ((IntKind.i64.wrap (a2 + a5)) < (a6.length : Int))) (cond (decide (0 ≤ 32)) (divide_limbs_long_5 a1 a2 ((IntKind.u64.wrap ((IntKind.u64.wrap ((IntKind.u64.wrap (a6.getD ((IntKind.i64.wrap (a2 + a5)).toNat) 0)) + (IntKind.u64.wrap (a1.getD a5.toNat 0)))) + a3)).fdiv (2 ^ min 32 IntKind.u64.bits)) a4 (IntKind.i64.wrap (a5 + 1)) (a6.set ((IntKind.i64.wrap (a2 + a5)).toNat) (IntKind.u32.wrap (IntKind.u64.wrap ((IntKind.u64.wrap ((IntKind.u64.wrap (a6.getD ((IntKind.i64.wrap (a2 + a5)).toNat) 0)) + (IntKind.u64.wrap (a1.getD a5.toNat 0)))) + a3)))) a7 a8 a9 a10 a11 a12) none) none) none) none) (cond (decide (0 ≤ (IntKind.i64.wrap (a2 + (a1.length : Int)))) && decide ((IntKind.i64.wrap (a2 + (a1.length : Int))) < (a6.length : Int))) (cond (decide (0 ≤ (IntKind.i64.wrap (a2 + (a1.length : Int)))) && decide ((IntKind.i64.wrap (a2 + (a1.length : Int))) < (a6.length : Int))) (cond (decide (0 ≤ a11) && decide (a11 < (a7.length : Int))) (divide_limbs_long_1 a8 a9 a10 (IntKind.i64.wrap (a11 - 1)) (a6.set ((IntKind.i64.wrap (a2 + (a1.length : Int))).toNat) (IntKind.u32.wrap ((a6.getD ((IntKind.i64.wrap (a2 + (a1.length : Int))).toNat) 0) + (IntKind.u32.wrap a3)))) (a7.set a11.toNat (IntKind.u32.wrap a12))) none) none) none) := (top_stage ..).trans (by kernel_rfl)
theorem nat_limbs_cut_eq (x0 : List Int) : nat_limbs_cut x0 = nat_limbs_cut_1 x0 := (top_call ..).trans (by kernel_rfl)
theorem nat_limbs_cut_1_eq (a1 : List Int) : nat_limbs_cut_1 a1 = cond (decide ((a1.length : Int) > 0)) (cond (decide (0 ≤ (IntKind.i64.wrap ((a1.length : Int) - 1))) && decide ((IntKind.i64.wrap ((a1.length : Int) - 1)) < (a1.length : Int))) (nat_limbs_cut_2 a1 (decide ((a1.getD ((IntKind.i64.wrap ((a1.length : Int) - 1)).toNat) 0) = 0))) none) (nat_limbs_cut_2 a1 false) := (top_stage ..).trans (by kernel_rfl)
theorem nat_limbs_cut_2_eq (a1 : List Int) (a2 : Bool) : nat_limbs_cut_2 a1 a2 = cond a2 (cond (decide (0 ≤ (IntKind.i64.wrap ((a1.length : Int) - 1))) && decide ((IntKind.i64.wrap ((a1.length : Int) - 1)) ≤ (a1.length : Int))) (nat_limbs_cut_1 (a1.take ((IntKind.i64.wrap ((a1.length : Int) - 1)).toNat))) none) (some a1) := (top_stage ..).trans (by kernel_rfl)
theorem divide_limbs_shifted_eq (x0 : List Int) (x1 : Int) : divide_limbs_shifted x0 x1 = cond (decide (0 ≤ (IntKind.i64.wrap ((x0.length : Int) + 1))) && (decide ((IntKind.i64.wrap ((x0.length : Int) + 1)) ≤ (IntKind.i64.wrap ((x0.length : Int) + 1))) && decide (((4 : Nat) : Int) * (IntKind.i64.wrap ((x0.length : Int) + 1)) ≤ 281474976710656))) (divide_limbs_shifted_1 x0 x1 0 x0 (x0.length : Int) 0 (List.replicate ((IntKind.i64.wrap ((x0.length : Int) + 1)).toNat) 0)) none := (top_call ..).trans (by kernel_rfl)
theorem divide_limbs_shifted_1_eq (a1 : List Int) (a2 a3 : Int) (a4 : List Int) (a5 a6 : Int) (a7 : List Int) : divide_limbs_shifted_1 a1 a2 a3 a4 a5 a6 a7 = cond (decide (a6 < a5)) (cond (decide (0 ≤ a6) && decide (a6 < (a4.length : Int))) (cond (decide (0 ≤ a2)) (cond (decide (0 ≤ a6) && decide (a6 < (a7.length : Int))) (cond (decide (0 ≤ 32)) (divide_limbs_shifted_1 a1 a2 ((bitop .or .u64 (IntKind.u64.wrap ((IntKind.u64.wrap (a4.getD a6.toNat 0)) * 2 ^ min a2.toNat IntKind.u64.bits)) a3).fdiv (2 ^ min 32 IntKind.u64.bits)) a4 a5 (IntKind.i64.wrap (a6 + 1)) (a7.set a6.toNat (IntKind.u32.wrap (bitop .or .u64 (IntKind.u64.wrap ((IntKind.u64.wrap (a4.getD a6.toNat 0)) * 2 ^ min a2.toNat IntKind.u64.bits)) a3)))) none) none) none) none) (cond (decide (0 ≤ (a1.length : Int)) && decide ((a1.length : Int) < (a7.length : Int))) (some (a7.set ((a1.length : Int).toNat) (IntKind.u32.wrap a3))) none) := (top_stage ..).trans (by kernel_rfl)
theorem divide_guess_eq (x0 x1 x2 x3 x4 : Int) : divide_guess x0 x1 x2 x3 x4 = cond (decide (0 ≤ 32)) (cond (!decide (x3 = 0)) (cond (!decide (x3 = 0)) (divide_guess_1 x2 x3 x4 (IntKind.u64.wrap ((bitop .or .u64 (IntKind.u64.wrap (x0 * 2 ^ min 32 IntKind.u64.bits)) x1).tdiv x3)) ((bitop .or .u64 (IntKind.u64.wrap (x0 * 2 ^ min 32 IntKind.u64.bits)) x1).tmod x3)) none) none) none := (top_call ..).trans (by kernel_rfl)
theorem divide_guess_1_eq (a1 a2 a3 a4 a5 : Int) : divide_guess_1 a1 a2 a3 a4 a5 = cond (decide (0 ≤ 32)) (cond (decide ((a4.fdiv (2 ^ min 32 IntKind.u64.bits)) > 0)) (divide_guess_2 a1 a2 a3 a4 a5 true) (cond (decide (0 ≤ 32)) (divide_guess_2 a1 a2 a3 a4 a5 (decide ((IntKind.u64.wrap (a4 * a3)) > (bitop .or .u64 (IntKind.u64.wrap (a5 * 2 ^ min 32 IntKind.u64.bits)) a1)))) none)) none := (top_stage ..).trans (by kernel_rfl)
theorem divide_guess_2_eq (a1 a2 a3 a4 a5 : Int) (a6 : Bool) : divide_guess_2 a1 a2 a3 a4 a5 a6 = cond a6 (cond (decide (0 ≤ 32)) (cond (decide (((IntKind.u64.wrap (a5 + a2)).fdiv (2 ^ min 32 IntKind.u64.bits)) > 0)) (some (IntKind.u64.wrap (a4 - 1))) (divide_guess_1 a1 a2 a3 (IntKind.u64.wrap (a4 - 1)) (IntKind.u64.wrap (a5 + a2)))) none) (some a4) := (top_stage ..).trans (by kernel_rfl)
theorem divide_limbs_back_eq (x0 : List Int) (x1 : Int) : divide_limbs_back x0 x1 = cond (decide (0 ≤ (x0.length : Int)) && (decide ((x0.length : Int) ≤ (x0.length : Int)) && decide (((4 : Nat) : Int) * (x0.length : Int) ≤ 281474976710656))) (divide_limbs_back_1 x0 x1 (x0.length : Int) 0 (List.replicate ((x0.length : Int).toNat) 0)) none := (top_call ..).trans (by kernel_rfl)
theorem divide_limbs_back_1_eq (a1 : List Int) (a2 a3 a4 : Int) (a5 : List Int) : divide_limbs_back_1 a1 a2 a3 a4 a5 = cond (decide (a4 < a3)) (cond (decide (0 ≤ a4) && decide (a4 < (a1.length : Int))) (cond (decide ((IntKind.i64.wrap (a4 + 1)) < (a1.length : Int))) (cond (decide (0 ≤ (IntKind.i64.wrap (a4 + 1))) && decide ((IntKind.i64.wrap (a4 + 1)) < (a1.length : Int))) (cond (decide (0 ≤ 32)) (divide_limbs_back_2 a1 a2 a4 (bitop .or .u64 (IntKind.u64.wrap (a1.getD a4.toNat 0)) (IntKind.u64.wrap ((IntKind.u64.wrap (a1.getD ((IntKind.i64.wrap (a4 + 1)).toNat) 0)) * 2 ^ min 32 IntKind.u64.bits))) a3 a4 a5) none) none) (divide_limbs_back_2 a1 a2 a4 (IntKind.u64.wrap (a1.getD a4.toNat 0)) a3 a4 a5)) none) (some a5) := (top_stage ..).trans (by kernel_rfl)
theorem divide_limbs_back_2_eq (a1 : List Int) (a2 a3 a4 a5 a6 : Int) (a7 : List Int) : divide_limbs_back_2 a1 a2 a3 a4 a5 a6 a7 = cond (decide (0 ≤ a2)) (cond (decide (0 ≤ a3) && decide (a3 < (a7.length : Int))) (divide_limbs_back_1 a1 a2 a5 (IntKind.i64.wrap (a6 + 1)) (a7.set a3.toNat (IntKind.u32.wrap (a4.fdiv (2 ^ min a2.toNat IntKind.u64.bits))))) none) none := (top_stage ..).trans (by kernel_rfl)
end Go.Proofs.YtpdfjgooaaailaaGreatDoor.C
namespace Go.Proofs.YtpdfjgooaaailaaGreatDoor.P
open Go
def valL (l : List Nat) : Nat := l.foldl (fun n b => n * 256 + b) 0
theorem foldl_val (l : List Nat) (n : Nat) : l.foldl (fun n b => n * 256 + b) n = n * 256 ^ l.length + valL l := by
  unfold valL
  induction l generalizing n with
  | nil => simp
  | cons a l ih =>
    simp only [List.foldl_cons, List.length_cons]
    rw [ih (n * 256 + a), ih (0 * 256 + a), Nat.pow_succ]
    simp only [Nat.zero_mul, Nat.zero_add, Nat.add_mul]
    rw [Nat.mul_assoc, Nat.mul_comm 256, Nat.add_assoc]
theorem valL_append (a b : List Nat) : valL (a ++ b) = valL a * 256 ^ b.length + valL b := by
  conv => lhs; unfold valL
  rw [List.foldl_append, foldl_val]
  rfl
theorem valL_snoc (a : List Nat) (b : Nat) : valL (a ++ [b]) = valL a * 256 + b := by rw [valL_append]; simp [valL]
theorem valL_cons (b : Nat) (l : List Nat) : valL (b :: l) = b * 256 ^ l.length + valL l := by
  have := valL_append [b] l
  simpa [valL] using this
theorem valL_lt (l : List Nat) (h : ∀ b ∈ l, b < 256) : valL l < 256 ^ l.length := by
  induction l with
  | nil => simp [valL]
  | cons a l ih =>
    rw [valL_cons, List.length_cons, Nat.pow_succ]
    have h1 := ih (fun b hb => h b (List.mem_cons_of_mem _ hb))
    have h2 := h a (List.mem_cons_self ..)
    have h3 : a * 256 ^ l.length ≤ 255 * 256 ^ l.length := Nat.mul_le_mul_right _ (by omega)
    omega
def digsF : Nat → Nat → List Nat
  | 0, _ => []
  | f + 1, n => if n = 0 then [] else digsF f (n / 256) ++ [n % 256]
def digs (n : Nat) : List Nat := digsF n n
theorem digsF_eq : ∀ (f g n : Nat), n ≤ f → n ≤ g → digsF f n = digsF g n
  | 0, g, n, h1, h2 => by
    obtain rfl : n = 0 := by omega
    cases g <;> simp [digsF]
  | f + 1, 0, n, h1, h2 => by
    obtain rfl : n = 0 := by omega
    simp [digsF]
  | f + 1, g + 1, n, h1, h2 => by
    by_cases h : n = 0
    · subst h; simp [digsF]
    · rw [digsF, digsF, if_neg h, if_neg h, digsF_eq f g (n / 256) (by omega) (by omega)]
theorem digs_zero : digs 0 = [] := rfl
theorem digs_pos {n : Nat} (h : n ≠ 0) : digs n = digs (n / 256) ++ [n % 256] := by
  obtain ⟨m, rfl⟩ : ∃ m, n = m + 1 := ⟨n - 1, by omega⟩
  conv => lhs; unfold digs
  rw [digsF, if_neg h, digsF_eq m ((m + 1) / 256) _ (by omega) (Nat.le_refl _)]; rfl
theorem digs_lt (n : Nat) : ∀ b ∈ digs n, b < 256 := by
  induction n using Nat.strongRecOn with
  | _ n ih =>
    by_cases h : n = 0
    · subst h; simp [digs_zero]
    · rw [digs_pos h]
      intro b hb
      rcases List.mem_append.1 hb with hb | hb
      · exact ih (n / 256) (by omega) b hb
      · simp at hb; omega
theorem val_digs (n : Nat) : valL (digs n) = n := by
  induction n using Nat.strongRecOn with
  | _ n ih =>
    by_cases h : n = 0
    · subst h; simp [digs_zero, valL]
    · rw [digs_pos h, valL_snoc, ih (n / 256) (by omega)]; omega
theorem digs_head (n : Nat) : ∀ b l, digs n = b :: l → b ≠ 0 := by
  induction n using Nat.strongRecOn with
  | _ n ih =>
    intro b l e
    by_cases h : n = 0
    · subst h; simp [digs_zero] at e
    · rw [digs_pos h] at e
      by_cases h2 : n / 256 = 0
      · rw [h2, digs_zero] at e
        simp at e
        omega
      · cases hd : digs (n / 256) with
        | nil => exact absurd (by rw [← val_digs (n / 256), hd]; rfl) h2
        | cons c l2 =>
          rw [hd] at e
          simp at e
          rw [← e.1]
          exact ih (n / 256) (by omega) c l2 hd
def trimL : List Nat → List Nat
  | [] => []
  | b :: l => if b = 0 then trimL l else b :: l
theorem snoc_ind {P : List Nat → Prop} (h0 : P []) (h1 : ∀ l b, P l → P (l ++ [b])) : ∀ l, P l := by
  intro l
  have : P l.reverse.reverse := by
    induction l.reverse with
    | nil => exact h0
    | cons b l ih => rw [List.reverse_cons]; exact h1 _ _ ih
  rwa [List.reverse_reverse] at this
theorem digs_val (l : List Nat) (h : ∀ b ∈ l, b < 256) : digs (valL l) = trimL l := by
  revert h
  refine snoc_ind (P := fun l => (∀ b ∈ l, b < 256) → digs (valL l) = trimL l) ?_ ?_ l
  · intro _; simp [valL, digs_zero, trimL]
  · intro l b ih h
    have hb : b < 256 := h b (by simp)
    have h' : ∀ x ∈ l, x < 256 := fun x hx => h x (by simp [hx])
    rw [valL_snoc]
    have key : ∀ l : List Nat, trimL (l ++ [b]) = if trimL l = [] then (if b = 0 then [] else [b]) else trimL l ++ [b] := by
      intro l
      induction l with
      | nil => simp [trimL]
      | cons a l ih =>
        simp only [List.cons_append, trimL]
        split
        · exact ih
        · simp
    rw [key]
    by_cases hz : valL l = 0
    · have ht : trimL l = [] := by rw [← ih h', hz, digs_zero]
      rw [hz, ht]
      simp only [Nat.zero_mul, Nat.zero_add, if_true]
      by_cases hb0 : b = 0
      · subst hb0; simp [digs_zero]
      · rw [digs_pos hb0, show b / 256 = 0 by omega, digs_zero, if_neg hb0, show b % 256 = b by omega]; rfl
    · have ht : trimL l ≠ [] := by
        rw [← ih h']
        intro e
        have := val_digs (valL l)
        rw [e] at this
        exact hz this.symm
      rw [if_neg ht, digs_pos (by omega), show (valL l * 256 + b) / 256 = valL l by omega, show (valL l * 256 + b) % 256 = b by omega, ih h']
theorem digs_length_le {n k : Nat} (h : n < 256 ^ k) : (digs n).length ≤ k := by
  induction k generalizing n with
  | zero => have : n = 0 := by simpa using h
            subst this; simp [digs_zero]
  | succ k ih =>
    by_cases h0 : n = 0
    · subst h0; simp [digs_zero]
    · rw [digs_pos h0, List.length_append]
      have := ih (n := n / 256) (by rw [Nat.pow_succ] at h; omega)
      simp; omega
def L (s : List UInt8) : List Nat := s.map UInt8.toNat
theorem L_length (s : List UInt8) : (L s).length = s.length := by simp [L]
theorem L_lt (s : List UInt8) : ∀ b ∈ L s, b < 256 := by
  intro b hb
  obtain ⟨u, _, rfl⟩ := List.mem_map.1 hb
  exact u.toNat_lt
theorem L_inj {s t : List UInt8} (h : L s = L t) : s = t := (List.map_inj_right (fun a b h => UInt8.toNat_inj.1 h)).1 h
theorem L_append (s t : List UInt8) : L (s ++ t) = L s ++ L t := by simp [L]
def nat (n : Nat) : List UInt8 := (digs n).map UInt8.ofNat
def val (s : List UInt8) : Nat := valL (L s)
theorem L_nat (n : Nat) : L (nat n) = digs n := by
  unfold L nat
  rw [List.map_map]
  conv => rhs; rw [← List.map_id (digs n)]
  apply List.map_congr_left
  intro b hb
  have := digs_lt n b hb
  simp only [Function.comp, id]
  exact UInt8.toNat_ofNat_of_lt' this
theorem val_nat (n : Nat) : val (nat n) = n := by unfold val; rw [L_nat, val_digs]
theorem nat_inj {m n : Nat} : nat m = nat n ↔ m = n := ⟨fun h => by rw [← val_nat m, h, val_nat], fun h => by rw [h]⟩
theorem L_trim (s : List UInt8) : L (nat (val s)) = trimL (L s) := by rw [L_nat]; exact digs_val _ (L_lt s)
theorem nat_length (n : Nat) : (nat n).length = (digs n).length := by rw [← L_length, L_nat]
theorem nat_length_le {n k : Nat} (h : n < 256 ^ k) : (nat n).length ≤ k := by rw [nat_length]; exact digs_length_le h
theorem val_lt (s : List UInt8) : val s < 256 ^ s.length := by
  have := valL_lt (L s) (L_lt s)
  rwa [L_length] at this
theorem nat_val_length (s : List UInt8) : (nat (val s)).length ≤ s.length := nat_length_le (val_lt s)
theorem nat_zero : nat 0 = [] := by unfold nat; rw [digs_zero]; rfl
theorem nat_eq_nil {n : Nat} : nat n = [] ↔ n = 0 := by rw [← nat_zero, nat_inj]
theorem val_nil : val [] = 0 := rfl
theorem val_append (s t : List UInt8) : val (s ++ t) = val s * 256 ^ t.length + val t := by unfold val; rw [L_append, valL_append, L_length]
theorem val_cons (b : UInt8) (s : List UInt8) : val (b :: s) = b.toNat * 256 ^ s.length + val s := by
  show valL (b.toNat :: L s) = _
  rw [valL_cons, L_length]; rfl
theorem val_snoc (s : List UInt8) (b : UInt8) : val (s ++ [b]) = val s * 256 + b.toNat := by
  rw [val_append]; simp [val_cons, val_nil]
theorem trim_fix {s : List UInt8} (h : ∀ b l, s = b :: l → b ≠ 0) : nat (val s) = s := by
  apply L_inj
  rw [L_trim]
  cases s with
  | nil => rfl
  | cons b l =>
    have : b.toNat ≠ 0 := fun e => h b l rfl (UInt8.toNat_inj.1 e)
    simp [L, trimL, this]
theorem trimB (s : List UInt8) : Lib.trimLeftB s 0 = nat (val s) := by
  apply L_inj
  rw [L_trim]
  unfold Lib.trimLeftB
  induction s with
  | nil => rfl
  | cons b s ih =>
    rw [List.dropWhile_cons]
    by_cases h : b = 0
    · subst h
      simp only [L, List.map_cons, trimL] at ih ⊢
      simpa using ih
    · have hb : b.toNat ≠ 0 := fun e => h (UInt8.toNat_inj.1 e)
      simp [L, trimL, h, hb]
theorem nat_head (n : Nat) (b : UInt8) (l : List UInt8) (h : nat n = b :: l) : b ≠ 0 := by
  intro e
  have h1 := L_nat n
  rw [h, e] at h1
  exact digs_head n 0 (L l) h1.symm rfl
def W (B : Nat) : List Int → Nat
  | [] => 0
  | a :: l => a.toNat + B * W B l
def Ok (B : Nat) (l : List Int) : Prop := ∀ x ∈ l, 0 ≤ x ∧ x < (B : Int)
theorem Ok.nil (B : Nat) : Ok B [] := fun x h => by cases h
theorem Ok.cons {B : Nat} {a : Int} {l : List Int} (h0 : 0 ≤ a) (h1 : a < (B : Int)) (h : Ok B l) : Ok B (a :: l) := by
  intro x hx
  rcases List.mem_cons.1 hx with rfl | hx
  · exact ⟨h0, h1⟩
  · exact h x hx
theorem Ok.append {B : Nat} {l m : List Int} (h : Ok B l) (k : Ok B m) : Ok B (l ++ m) := by
  intro x hx
  rcases List.mem_append.1 hx with hx | hx
  · exact h x hx
  · exact k x hx
theorem Ok.snoc {B : Nat} {l : List Int} {a : Int} (h : Ok B l) (h0 : 0 ≤ a) (h1 : a < (B : Int)) : Ok B (l ++ [a]) := h.append ((Ok.nil B).cons h0 h1)
theorem Ok.take {B : Nat} {l : List Int} (h : Ok B l) (i : Nat) : Ok B (l.take i) := fun x hx => h x (List.mem_of_mem_take hx)
theorem Ok.set {B : Nat} {l : List Int} {a : Int} (h : Ok B l) (p : Nat) (h0 : 0 ≤ a) (h1 : a < (B : Int)) : Ok B (l.set p a) := by
  intro x hx
  rcases List.mem_or_eq_of_mem_set hx with hx | rfl
  · exact h x hx
  · exact ⟨h0, h1⟩
theorem Ok.zeros {B : Nat} (hB : 0 < B) (n : Nat) : Ok B (List.replicate n 0) := by
  intro x hx
  have := (List.mem_replicate.1 hx).2
  subst this
  omega
theorem Ok.getD {B : Nat} {l : List Int} (hB : 0 < B) (h : Ok B l) (i : Nat) : 0 ≤ l.getD i 0 ∧ l.getD i 0 < (B : Int) := by
  by_cases hi : i < l.length
  · rw [List.getD_eq_getElem?_getD, List.getElem?_eq_getElem hi]
    exact h _ (List.getElem_mem hi)
  · rw [List.getD_eq_getElem?_getD, List.getElem?_eq_none (by omega)]
    simp; omega
theorem W_append (B : Nat) (a b : List Int) : W B (a ++ b) = W B a + B ^ a.length * W B b := by
  induction a with
  | nil => simp [W]
  | cons x a ih =>
    simp only [List.cons_append, W, ih, List.length_cons, Nat.pow_succ]
    grind
theorem W_snoc (B : Nat) (a : List Int) (x : Int) : W B (a ++ [x]) = W B a + B ^ a.length * x.toNat := by rw [W_append]; simp [W]
theorem W_lt {B : Nat} {l : List Int} (h : Ok B l) : W B l < B ^ l.length := by
  induction l with
  | nil => simp [W]
  | cons a l ih =>
    have h1 := ih (fun x hx => h x (List.mem_cons_of_mem _ hx))
    have h2 := h a (List.mem_cons_self ..)
    rw [W, List.length_cons, Nat.pow_succ]
    have h3 : a.toNat < B := by omega
    have h4 : B * (W B l + 1) ≤ B * B ^ l.length := Nat.mul_le_mul_left _ (by omega)
    rw [Nat.mul_add, Nat.mul_comm B (B ^ l.length)] at h4
    omega
theorem W_zeros (B n : Nat) : W B (List.replicate n 0) = 0 := by
  induction n with
  | zero => rfl
  | succ n ih => rw [List.replicate_succ, W, ih]; simp
theorem take_succ' (l : List Int) (i : Nat) (h : i < l.length) : l.take (i + 1) = l.take i ++ [l.getD i 0] := by
  rw [List.take_add_one, List.getD_eq_getElem?_getD, List.getElem?_eq_getElem h]
  rfl
theorem W_take (B : Nat) (l : List Int) (i : Nat) : W B (l.take (i + 1)) = W B (l.take i) + B ^ i * (l.getD i 0).toNat := by
  by_cases h : i < l.length
  · rw [take_succ' l i h, W_snoc, List.length_take, Nat.min_eq_left (by omega)]
  · rw [List.take_of_length_le (by omega), List.take_of_length_le (by omega), List.getD_eq_getElem?_getD, List.getElem?_eq_none (by omega)]
    simp
theorem W_all (B : Nat) (l : List Int) (i : Nat) (h : l.length ≤ i) : W B (l.take i) = W B l := by rw [List.take_of_length_le h]
theorem W_set (B : Nat) (l : List Int) (p : Nat) (v : Int) (h : p < l.length) : W B (l.set p v) + B ^ p * (l.getD p 0).toNat = W B l + B ^ p * v.toNat := by
  induction l generalizing p with
  | nil => simp at h
  | cons a l ih =>
    cases p with
    | zero => simp [W]; omega
    | succ p =>
      have := ih p (by simpa using h)
      simp only [List.set_cons_succ, W, List.getD_cons_succ, Nat.pow_succ]
      grind
theorem W_split (B : Nat) (l : List Int) (i : Nat) (h : i ≤ l.length) : W B l = W B (l.take i) + B ^ i * W B (l.drop i) := by
  conv => lhs; rw [← List.take_append_drop i l]
  rw [W_append, List.length_take, Nat.min_eq_left h]
theorem getD_set_ne (l : List Int) (p j : Nat) (v : Int) (h : p ≠ j) : (l.set p v).getD j 0 = l.getD j 0 := by
  rw [List.getD_eq_getElem?_getD, List.getElem?_set_ne h, List.getD_eq_getElem?_getD]
theorem getD_set_self (l : List Int) (p : Nat) (v : Int) (h : p < l.length) : (l.set p v).getD p 0 = v := by
  rw [List.getD_eq_getElem?_getD, List.getElem?_set_self h]; rfl
def limbs (n : Nat) : List Int := if h : n = 0 then [] else ((n % 4294967296 : Nat) : Int) :: limbs (n / 4294967296)
termination_by n
decreasing_by omega
theorem limbs_zero : limbs 0 = [] := by rw [limbs]; simp
theorem limbs_pos {n : Nat} (h : n ≠ 0) : limbs n = ((n % 4294967296 : Nat) : Int) :: limbs (n / 4294967296) := by rw [limbs]; simp [h]
def cutW : List Int → List Int
  | [] => []
  | a :: l => if cutW l = [] then (if a = 0 then [] else [a]) else a :: cutW l
theorem cutW_snoc (l : List Int) (a : Int) (h : a ≠ 0) : cutW (l ++ [a]) = l ++ [a] := by
  induction l with
  | nil => simp [cutW, h]
  | cons b l ih => simp only [List.cons_append, cutW, ih]; simp
theorem cutW_limbs {l : List Int} (h : Ok 4294967296 l) : cutW l = limbs (W 4294967296 l) := by
  induction l with
  | nil => simp [cutW, W, limbs_zero]
  | cons a l ih =>
    have ha := h a (List.mem_cons_self ..)
    have ih := ih (fun x hx => h x (List.mem_cons_of_mem _ hx))
    rw [cutW, W, ih]
    by_cases hz : W 4294967296 l = 0
    · rw [hz, limbs_zero]
      simp only [if_true]
      by_cases h0 : a = 0
      · subst h0; simp [limbs_zero]
      · rw [if_neg h0, limbs_pos (by omega), show (a.toNat + 4294967296 * 0) / 4294967296 = 0 by omega, limbs_zero]
        congr 1
        omega
    · have hn : limbs (W 4294967296 l) ≠ [] := by rw [limbs_pos hz]; simp
      rw [if_neg hn]
      rw [limbs_pos (n := a.toNat + 4294967296 * W 4294967296 l) (by omega), show (a.toNat + 4294967296 * W 4294967296 l) / 4294967296 = W 4294967296 l by omega]
      congr 1
      omega
theorem limbs_ok (n : Nat) : Ok 4294967296 (limbs n) := by
  induction n using Nat.strongRecOn with
  | _ n ih =>
    by_cases h : n = 0
    · subst h; rw [limbs_zero]; exact Ok.nil _
    · rw [limbs_pos h]
      exact (ih (n / 4294967296) (by omega)).cons (by omega) (by omega)
theorem W_limbs (n : Nat) : W 4294967296 (limbs n) = n := by
  induction n using Nat.strongRecOn with
  | _ n ih =>
    by_cases h : n = 0
    · subst h; rw [limbs_zero]; rfl
    · rw [limbs_pos h, W, ih (n / 4294967296) (by omega)]
      omega
theorem limbs_getD (n i : Nat) : (limbs n).getD i 0 = ((n / 4294967296 ^ i % 4294967296 : Nat) : Int) := by
  induction i generalizing n with
  | zero =>
    by_cases h : n = 0
    · subst h; simp [limbs_zero]
    · rw [limbs_pos h]; simp
  | succ i ih =>
    by_cases h : n = 0
    · subst h; simp [limbs_zero]
    · rw [limbs_pos h, List.getD_cons_succ, ih, Nat.pow_succ, Nat.mul_comm, Nat.div_div_eq_div_mul]
theorem lt_limbs (n : Nat) : n < 4294967296 ^ (limbs n).length := by
  have := W_lt (limbs_ok n)
  rwa [W_limbs] at this
theorem limbs_le {n k : Nat} (h : n < 4294967296 ^ k) : (limbs n).length ≤ k := by
  induction k generalizing n with
  | zero => have : n = 0 := by simpa using h
            subst this; simp [limbs_zero]
  | succ k ih =>
    by_cases h0 : n = 0
    · subst h0; simp [limbs_zero]
    · rw [limbs_pos h0, List.length_cons]
      have := ih (n := n / 4294967296) (by rw [Nat.pow_succ] at h; omega)
      omega
theorem limbs_low {n : Nat} (h : n ≠ 0) : 4294967296 ^ ((limbs n).length - 1) ≤ n := by
  apply Classical.byContradiction
  intro hn
  have h1 := limbs_le (n := n) (k := (limbs n).length - 1) (by omega)
  have h2 : (limbs n).length ≠ 0 := by rw [limbs_pos h]; simp
  omega
theorem limbs_nil {n : Nat} : (limbs n).length = 0 ↔ n = 0 := by
  constructor
  · intro h
    have := lt_limbs n
    rw [h] at this
    simpa using this
  · rintro rfl; rw [limbs_zero]; rfl
theorem pow_32 (k : Nat) : 4294967296 ^ k = 256 ^ (4 * k) := by rw [show (4294967296 : Nat) = 256 ^ 4 by decide, ← Nat.pow_mul]
theorem limbs_size {n k : Nat} (h : n < 256 ^ k) : (limbs n).length ≤ (k + 3) / 4 := by
  apply limbs_le
  rw [pow_32]
  exact Nat.lt_of_lt_of_le h (Nat.pow_le_pow_right (by decide) (by omega))
theorem limbs_val (s : List UInt8) : (limbs (val s)).length ≤ (s.length + 3) / 4 := limbs_size (val_lt s)
def R (s : List UInt8) : List Int := ((L s).map fun b : Nat => (b : Int)).reverse
def blen (n : Nat) : Nat := if h : n = 0 then 0 else blen (n / 2) + 1
termination_by n
decreasing_by omega
theorem blen_zero : blen 0 = 0 := by rw [blen]; simp
theorem blen_pos {n : Nat} (h : n ≠ 0) : blen n = blen (n / 2) + 1 := by rw [blen]; simp [h]
theorem bitLen_blen (n : Nat) : n < 2 ^ 64 → Lib.bitLen n = blen n := by
  induction n using Nat.strongRecOn with
  | _ n ih =>
    intro hn
    by_cases h : n = 0
    · subst h; rw [blen_zero]; exact Lib.bitLenAux_zero _
    · rw [Lib.bitLen_half n h hn, blen_pos h, ih (n / 2) (by omega) (by omega)]
      omega
theorem blen_le (n : Nat) (h : n < 2 ^ 32) : blen n ≤ 32 := by
  rw [← bitLen_blen n (by omega)]; exact Lib.bitLen_le n 32 (by decide) h
theorem limbs_len_lt {a b : Nat} (h : (limbs a).length < (limbs b).length) : a < b := by
  have h1 := lt_limbs a
  have hb : b ≠ 0 := by rintro rfl; rw [limbs_zero] at h; simp at h
  have h2 := limbs_low hb
  have h3 : 4294967296 ^ (limbs a).length ≤ 4294967296 ^ ((limbs b).length - 1) := Nat.pow_le_pow_right (by decide) (by omega)
  omega
theorem add_step (P B w c a a' x y q r : Nat) (h : w + P * c = x + y) (hv : a + a' + c = B * q + r) : (w + P * r) + P * B * q = (x + P * a) + (y + P * a') := by
  have : P * (a + a' + c) = P * (B * q + r) := by rw [hv]
  grind
theorem mul_step (B P w w' x m c a b y q r Pi Pj : Nat) (h : w + P * c = x + a * Pi * m) (hp : P = Pi * Pj) (hset : w' + P * y = w + P * r) (hv : a * b + y + c = B * q + r) :
    w' + P * B * q = x + a * Pi * (m + Pj * b) := by
  subst hp
  have : Pi * Pj * (a * b + y + c) = Pi * Pj * (B * q + r) := by rw [hv]
  have h2 : w' + Pi * Pj * B * q + Pi * Pj * y + Pi * Pj * c = x + a * Pi * (m + Pj * b) + Pi * Pj * y + Pi * Pj * c := by grind
  omega
theorem le_mul_pred {a b B : Nat} (ha : a < B) (hb : b < B) : a * b + 2 * B ≤ B * B + 1 := by
  obtain ⟨x, rfl⟩ : ∃ x, B = a + 1 + x := ⟨B - (a + 1), by omega⟩
  obtain ⟨y, hy⟩ : ∃ y, a + 1 + x = b + 1 + y := ⟨a + 1 + x - (b + 1), by omega⟩
  have h1 : a * b ≤ (a + x) * (b + y) := Nat.mul_le_mul (by omega) (by omega)
  have h2 : b + y = a + x := by omega
  rw [h2] at h1
  have h3 : (a + 1 + x) * (a + 1 + x) = (a + x) * (a + x) + 2 * (a + x) + 1 := by grind
  omega
theorem W_set' (B : Nat) (l : List Int) (p : Nat) (v : Nat) (h : p < l.length) : W B (l.set p (v : Int)) + B ^ p * (l.getD p 0).toNat = W B l + B ^ p * v := W_set B l p v h
end Go.Proofs.YtpdfjgooaaailaaGreatDoor.P
namespace Go.Proofs.YtpdfjgooaaailaaGreatDoor.P
open Go Go.Proofs.YtpdfjgooaaailaaGreatDoor.K Go.Proofs.YtpdfjgooaaailaaGreatDoor.C
theorem wS {i : Nat} (h : i + 1 ≤ 9223372036854775807) : IntKind.i64.wrap ((i : Int) + 1) = ((i + 1 : Nat) : Int) := wrap64 (by omega) (by omega)
theorem wA {a b : Nat} (h : a + b ≤ 9223372036854775807) : IntKind.i64.wrap ((a : Int) + (b : Int)) = ((a + b : Nat) : Int) := by rw [wrap64 (by omega) (by omega)]; omega
theorem wraps_u32 (n : Int) (h₀ : 0 ≤ n) (h₁ : n < 2 ^ 32) : IntKind.u32.wrap n = n := wrapU32 h₀ (by omega)
theorem wraps_u64 (n : Int) (h₀ : 0 ≤ n) (h₁ : n < 2 ^ 64) : IntKind.u64.wrap n = n := wrapU64 h₀ (by omega)
theorem wraps_i64 (n : Int) (h₀ : 0 ≤ n) (h₁ : n < 2 ^ 63) : IntKind.i64.wrap n = n := wrap64 (by omega) (by omega)
theorem mod_u32 (n : Int) : IntKind.u32.wrap n = n % 4294967296 := by simp [IntKind.wrap, IntKind.bits, IntKind.signed]
theorem mod_u64 (n : Int) : IntKind.u64.wrap n = n % 18446744073709551616 := by simp [IntKind.wrap, IntKind.bits, IntKind.signed]
theorem bitop_or (k : IntKind) (x y : Int) : bitop .or k x y = Go.bits .or k x y := rfl
theorem or_u32 (x y : Int) (h0 : 0 ≤ x) (h1 : x < 16777216) (h2 : 0 ≤ y) (h3 : y < 256) : bitop .or .u32 (IntKind.u32.wrap (x * 2 ^ min 8 IntKind.u32.bits)) (IntKind.u32.wrap y) = x * 256 + y := by
  rw [show (2 : Int) ^ min 8 IntKind.u32.bits = 256 from rfl, wrapU32 (by omega) (by omega), wrapU32 (by omega) (by omega)]
  exact bits_join .u32 32 (by decide) wraps_u32 8 (x * 256) y (by omega) (by omega) (by omega) h2 (by omega) (by omega)
theorem or_u64 (x y : Int) (i : Nat) (h0 : 0 ≤ x) (hx : x % 2 ^ i = 0) (h1 : x < 18446744073709551616) (h2 : 0 ≤ y) (h3 : y < 2 ^ i) (h4 : y < 18446744073709551616) : bitop .or .u64 x y = x + y :=
  bits_join .u64 64 (by decide) wraps_u64 i x y h0 hx (by omega) h2 h3 (by omega)
theorem and_u64w (x : Int) (h0 : 0 ≤ x) (h1 : x < 18446744073709551616) : bitop .and .u64 x 4294967295 = x % 4294967296 :=
  bits_mask .u64 64 (by decide) wraps_u64 32 (by decide) x h0 (by omega)
theorem p32 : (2 : Int) ^ min 32 IntKind.u64.bits = 4294967296 := rfl
theorem fd {a : Int} {b : Int} (hb : 0 < b) : a.fdiv b = a / b := Int.fdiv_eq_ediv_of_nonneg a (by omega)
theorem room (n m k : Nat) (h : (n + m) * k ≤ 140737488355328) : Nat.ble ((n + m) * k) 140737488355328 = true := Nat.ble_eq_true_of_le h
theorem inC {a b : Nat} (h : a ≤ b) : (decide (0 ≤ (a : Int)) && decide ((a : Int) ≤ (b : Int))) = true := by simp; omega
theorem natTrim (s : List UInt8) : nat_Trim s = some (nat (val s)) := by
  rw [nat_Trim_eq, show strings_TrimLeft s [0] = some (Lib.trimLeftB s 0) from (top_call ..).trans rfl, trimB]; rfl
theorem natCut1 : ∀ (n : Nat) (l : List Int), l.length = n → l.length ≤ 9223372036854775807 → Ok 4294967296 l → nat_limbs_cut_1 l = some (limbs (W 4294967296 l))
  | 0, l, h, _, _ => by
    obtain rfl : l = [] := List.eq_nil_of_length_eq_zero h
    rw [nat_limbs_cut_1_eq, decide_eq_false (by simp), cond_false, nat_limbs_cut_2_eq, W, limbs_zero]; rfl
  | n + 1, l, h, hl, ho => by
    obtain ⟨a, x, rfl⟩ : ∃ a x, l = a ++ [x] := ⟨l.dropLast, l.getLast (by rintro rfl; simp at h), (List.dropLast_concat_getLast _).symm⟩
    have ha : a.length = n := by simpa using h
    have hw : IntKind.i64.wrap ((((a ++ [x] : List Int).length : Nat) : Int) - 1) = (n : Int) := by rw [show ((((a ++ [x] : List Int).length : Nat) : Int) - 1) = (n : Int) by simp [ha]]; exact wrap64 (by omega) (by simp at hl; omega)
    have oa : Ok 4294967296 a := fun y hy => ho y (by simp [hy])
    have ox := ho x (by simp)
    rw [nat_limbs_cut_1_eq, decide_eq_true (show (((a ++ [x]).length : Nat) : Int) > 0 by rw [h]; omega), cond_true, hw, show (decide (0 ≤ (n : Int)) && decide ((n : Int) < ((a ++ [x]).length : Int))) = true by simp [ha]; omega, cond_true, Int.toNat_natCast,
      show (a ++ [x]).getD n 0 = x by rw [← ha]; simp, nat_limbs_cut_2_eq, hw, show (decide (0 ≤ (n : Int)) && decide ((n : Int) ≤ ((a ++ [x]).length : Int))) = true by simp [ha]; omega, cond_true, Int.toNat_natCast,
      show (a ++ [x]).take n = a by rw [← ha]; simp]
    by_cases hx : x = 0
    · subst hx
      rw [decide_eq_true rfl, cond_true, natCut1 n a ha (by simp at hl; omega) oa, W_snoc]
      simp
    · rw [decide_eq_false hx, cond_false, ← cutW_limbs ho, cutW_snoc a x hx]
theorem natCut (l : List Int) (hl : l.length ≤ 9223372036854775807) (ho : Ok 4294967296 l) : nat_limbs_cut l = some (limbs (W 4294967296 l)) := (nat_limbs_cut_eq l).trans (natCut1 _ l rfl hl ho)
theorem cutZ_limbs {l : List Int} (ho : Ok 4294967296 l) : H.cutZ l = limbs (W 4294967296 l) := by
  rw [← cutW_limbs ho]
  clear ho
  induction l with
  | nil => rfl
  | cons a l ih =>
    rw [H.cutZ, cutW, ih]
    cases cutW l with
    | nil => by_cases h : a = 0 <;> simp [h]
    | cons b m => simp
theorem be4_ok (l : List Int) (h : Ok 4294967296 l) : val (bytesOf (H.be4 l.reverse)) = W 4294967296 l := by
  induction l with
  | nil => rfl
  | cons a l ih =>
    have ha := h a (List.mem_cons_self ..)
    have ih := ih (fun x hx => h x (List.mem_cons_of_mem _ hx))
    have e : bytesOf (H.be4 (a :: l).reverse) = bytesOf (H.be4 l.reverse) ++ bytesOf [a / 16777216 % 256, a / 65536 % 256, a / 256 % 256, a % 256] := by
      rw [List.reverse_cons, H.HtextNat.be4_snoc]; simp [bytesOf]
    have b1 : ∀ x : Int, (UInt8.ofNat (x % 256).toNat).toNat = (x % 256).toNat := fun x => UInt8.toNat_ofNat_of_lt' (by show _ < 256; omega)
    rw [e, val_append, ih, W]
    simp only [bytesOf, List.map_cons, List.map_nil, val_cons, val_nil, List.length_cons, List.length_nil, b1]
    omega
theorem natText (l : List Int) (hl : l.length ≤ 1099511627776) (ho : Ok 4294967296 l) : nat_limbs_text l = some (nat (W 4294967296 l)) := by
  refine (top_call ..).trans ?_
  show H.textF l = _
  have h1 := limbs_le (W_lt ho)
  unfold H.textF
  rw [cutZ_limbs ho, show (decide (l.length ≤ 9223372036854775807) && decide ((limbs (W 4294967296 l)).length * 4 ≤ 140737488355328)) = true by simp; omega, cond_true, trimB, be4_ok _ (limbs_ok _), W_limbs]
theorem natRead2 (s : List UInt8) (fr : Nat) (acc : List Int) (c : List UInt8) (hc : c.length ≤ 4) : ∀ (m i : Nat), i + m = c.length →
    nat_read_2 s (fr : Int) ((val (c.take i) : Nat) : Int) (c.map fun b => (b.toNat : Int)) (c.length : Int) (i : Int) acc = nat_read_2 s (fr : Int) ((val c : Nat) : Int) (c.map fun b => (b.toNat : Int)) (c.length : Int) (c.length : Int) acc
  | 0, i, h => by
    obtain rfl : i = c.length := by omega
    rw [List.take_length]
  | m + 1, i, h => by
    have hi : i < c.length := by omega
    have hv := val_lt (c.take i)
    have hp : 256 ^ (c.take i).length ≤ 256 ^ 3 := Nat.pow_le_pow_right (by decide) (by simp; omega)
    have hb := (c[i]).toNat_lt
    have hg : (c.map fun b => (b.toNat : Int)).getD (i : Int).toNat 0 = ((c[i]).toNat : Int) := by simp [List.getD, hi]
    rw [nat_read_2_eq, decide_eq_true (show (i : Int) < (c.length : Int) by omega), cond_true, show (decide (0 ≤ (i : Int)) && decide ((i : Int) < (((c.map fun b => (b.toNat : Int)).length : Nat) : Int))) = true by rw [List.length_map]; exact ix hi, cond_true, decide_eq_true (by decide), cond_true, hg,
      or_u32 _ _ (by omega) (by omega) (by omega) (by omega), wS (by omega)]
    have e : ((val (c.take i) : Nat) : Int) * 256 + ((c[i]).toNat : Int) = ((val (c.take (i + 1)) : Nat) : Int) := by
      rw [List.take_add_one, List.getElem?_eq_getElem hi]
      simp only [Option.toList_some, val_snoc]
      omega
    rw [e]
    exact natRead2 s fr acc c hc m (i + 1) (by omega)
theorem natRead1 : ∀ (n : Nat) (s : List UInt8) (acc : List Int), s.length ≤ n → s.length + 4 * acc.length ≤ 4398046511104 → Ok 4294967296 acc → (acc ≠ [] → True) →
    nat_read_1 s acc = some (limbs (W 4294967296 acc + 4294967296 ^ acc.length * val s))
  | 0, s, acc, h, hl, ho, _ => by
    obtain rfl : s = [] := List.eq_nil_of_length_eq_zero (by omega)
    rw [nat_read_1_eq, decide_eq_false (by simp), cond_false, natCut acc (by omega) ho, val_nil]
    simp
  | n + 1, s, acc, h, hl, ho, _ => by
    by_cases h0 : s.length = 0
    · obtain rfl : s = [] := List.eq_nil_of_length_eq_zero h0
      rw [nat_read_1_eq, decide_eq_false (by simp), cond_false, natCut acc (by omega) ho, val_nil]
      simp
    · have hw : max 0 (IntKind.i64.wrap ((s.length : Int) - 4)) = ((s.length - 4 : Nat) : Int) := by rw [wrap64 (by omega) (by omega)]; omega
      have hcl : (s.drop (s.length - 4)).length ≤ 4 := by simp; omega
      have hin : (decide (0 ≤ ((s.length - 4 : Nat) : Int)) && decide (((s.length - 4 : Nat) : Int) ≤ (s.length : Int))) = true := inC (by omega)
      have hv := val_lt (s.drop (s.length - 4))
      have hp : 256 ^ (s.drop (s.length - 4)).length ≤ 256 ^ 4 := Nat.pow_le_pow_right (by decide) hcl
      rw [nat_read_1_eq, decide_eq_true (show (s.length : Int) > 0 by omega), cond_true, hw, hin, cond_true, Int.toNat_natCast, List.length_map]
      have hr := natRead2 s (s.length - 4) acc (s.drop (s.length - 4)) hcl _ 0 (Nat.zero_add _)
      rw [List.take_zero, val_nil] at hr
      refine Eq.trans hr ?_
      rw [nat_read_2_eq, decide_eq_false (by omega), cond_false, room _ _ _ (by simp; omega), cond_true, hin, cond_true, Int.toNat_natCast,
        natRead1 n _ _ (by simp; omega) (by simp; omega) (ho.snoc (by omega) (by omega)) (fun _ => trivial)]
      congr 2
      rw [W_snoc, Int.toNat_natCast, List.length_append, List.length_cons, List.length_nil]
      have hs : val s = val (s.take (s.length - 4)) * 256 ^ (s.drop (s.length - 4)).length + val (s.drop (s.length - 4)) := by rw [← val_append, List.take_append_drop]
      rw [hs]
      by_cases h4 : s.length ≤ 4
      · rw [show s.length - 4 = 0 by omega, List.take_zero, val_nil]
        simp
      · rw [show (s.drop (s.length - 4)).length = 4 by simp; omega, Nat.pow_succ, show 256 ^ 4 = 4294967296 by decide]
        generalize 4294967296 ^ acc.length = Q
        rw [Nat.mul_add, Nat.mul_comm (val (s.take (s.length - 4))), Nat.mul_assoc]
        omega
theorem natRead (s : List UInt8) (h : s.length ≤ 4398046511104) : nat_read s = some (limbs (val s)) := by
  rw [nat_read_eq, natRead1 s.length s [] (Nat.le_refl _) (by simpa using h) (Ok.nil _) (fun h => absurd rfl h)]
  simp [W]
theorem natAt (l : List Int) (ho : Ok 4294967296 l) (i : Nat) : nat_limbs_at l (i : Int) = some (l.getD i 0) := by
  rw [nat_limbs_at_eq]
  by_cases h : i < l.length
  · have := ho.getD (by decide) i
    rw [decide_eq_false (by omega), cond_false, ix h, cond_true, Int.toNat_natCast, wrapU64 (by omega) (by omega)]
  · rw [decide_eq_true (by omega), cond_true, List.getD_eq_getElem?_getD, List.getElem?_eq_none (by omega)]; rfl
theorem natOf (n : Nat) (h : n < 18446744073709551616) : nat_Of (n : Int) = some (nat n) := by
  have h1 : IntKind.u32.wrap (n : Int) = ((n % 4294967296 : Nat) : Int) := by rw [mod_u32]; omega
  have h2 : IntKind.u32.wrap ((n : Int).fdiv (2 ^ min 32 IntKind.u64.bits)) = ((n / 4294967296 : Nat) : Int) := by rw [p32, fd (by omega), wrapU32 (by omega) (by omega)]; omega
  rw [nat_Of_eq, decide_eq_true (by decide), cond_true, h1, h2, natText _ (by simp) (((Ok.nil _).cons (by omega) (by omega)).cons (by omega) (by omega))]
  simp only [Option.bind_some, W, Int.toNat_natCast]
  congr 2
  omega
def small (n : Nat) : Int × Bool := if n < 18446744073709551616 then ((n : Int), true) else (0, false)
theorem natSmall (s : List UInt8) (h : s.length ≤ 4398046511104) : nat_Small s = some (small (val s)) := by
  rw [nat_Small_eq, natRead s h, Option.bind_some]
  by_cases h2 : (limbs (val s)).length > 2
  · have : ¬ val s < 18446744073709551616 := fun hh => by
      have := limbs_le (n := val s) (k := 2) (by simpa using hh)
      omega
    rw [decide_eq_true (by omega), cond_true, small, if_neg this]
  · have h3 := lt_limbs (val s)
    have h4 : 4294967296 ^ (limbs (val s)).length ≤ 4294967296 ^ 2 := Nat.pow_le_pow_right (by decide) (by omega)
    have h5 : val s < 18446744073709551616 := by omega
    have a0 : nat_limbs_at (limbs (val s)) 0 = some ((limbs (val s)).getD 0 0) := natAt _ (limbs_ok _) 0
    have a1 : nat_limbs_at (limbs (val s)) 1 = some ((limbs (val s)).getD 1 0) := natAt _ (limbs_ok _) 1
    rw [decide_eq_false (by omega), cond_false, a1, Option.bind_some, decide_eq_true (by decide), cond_true, a0, Option.bind_some, limbs_getD, limbs_getD, p32, small, if_pos h5]
    rw [wrapU64 (by omega) (by omega), or_u64 _ _ 32 (by omega) (by omega) (by omega) (by omega) (by omega) (by omega)]
    congr 2
    simp only [Nat.pow_zero, Nat.pow_one, Nat.div_one]
    omega
end Go.Proofs.YtpdfjgooaaailaaGreatDoor.P
namespace Go.Proofs.YtpdfjgooaaailaaGreatDoor.P
open Go Go.Proofs.YtpdfjgooaaailaaGreatDoor.K Go.Proofs.YtpdfjgooaaailaaGreatDoor.C
def sgnv (a b : Nat) : Int := if a < b then -1 else if a = b then 0 else 1
end Go.Proofs.YtpdfjgooaaailaaGreatDoor.P
