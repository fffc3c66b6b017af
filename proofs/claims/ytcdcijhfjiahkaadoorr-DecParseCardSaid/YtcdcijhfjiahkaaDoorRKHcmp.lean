/- (abacist/nat.limbs).cmp: two numbers' digits held against each other, the highest first: the contract, by hand (a range over slices.Backward). -/
import Derived.Test.YtcdcijhfjiahkaaDoorRBwNat
namespace Go.Proofs.YtcdcijhfjiahkaaDoorR.H
open Go Go.RowKit Go.Shelf Go.Proofs.YtcdcijhfjiahkaaDoorR.BwNat
open Go.Proofs.YtcdcijhfjiahkaaDoorR.K (Ty den rd nums nums_append add_plain ReadsInt own_base own_string Nums unSl bytesOf unCons slDen ret_str ret_int ret_sl str_bytes RetT CallT retT_plain denInt denStr cond_some)
attribute [local go_sem] Oper.semAt_some
set_option linter.unusedVariables false
set_option linter.unusedSimpArgs false

/-- The digits below place k, the highest first. -/
def cmpFrom (l m : List Int) : Nat → Int
  | 0 => 0
  | k + 1 => if rd l (k : Int) = rd m (k : Int) then cmpFrom l m k else if rd l (k : Int) > rd m (k : Int) then 1 else -1
def cmpF (y : List Int × List Int) : Option Int := cond (decide (y.1.length ≤ 9223372036854775807) && decide (y.2.length ≤ 9223372036854775807)) (some (if y.1.length = y.2.length then cmpFrom y.1 y.2 y.1.length else if y.1.length > y.2.length then 1 else -1)) none

namespace Hcmp
theorem sign_t (b : Bool) (w : World) : Calls Tryd.prog 115 #[.bool b] w fun e w' => e = .returned (.int .i64 (if b then 1 else -1)) ∧ w = w' := by
  cases b
  all_goals
    go_enter Tryd.func115, Tryd.ntmps115
    go_wp2
    go_ret
    exact ⟨rfl, rfl⟩

theorem from_eq (l m : List Int) (n k : Nat) (hk : k ≤ n) (h : ∀ j, k ≤ j → j < n → rd l (j : Int) = rd m (j : Int)) : cmpFrom l m n = cmpFrom l m k := by
  induction n with
  | zero => obtain rfl : k = 0 := by omega
            rfl
  | succ n ih =>
    by_cases e : k = n + 1
    · rw [e]
    · rw [cmpFrom, if_pos (h n (by omega) (by omega))]
      exact ih (by omega) (fun j h1 h2 => h j h1 (by omega))
theorem from_ne (l m : List Int) (n k : Nat) (hk : k < n) (h : ∀ j, k < j → j < n → rd l (j : Int) = rd m (j : Int)) (hne : rd l (k : Int) ≠ rd m (k : Int)) :
    cmpFrom l m n = if decide (rd l (k : Int) > rd m (k : Int)) = true then 1 else -1 := by
  rw [from_eq l m n (k + 1) hk (fun j h1 h2 => h j (by omega) h2), cmpFrom, if_neg hne]
  simp

theorem own_keeps {β : Type} (keep : Nat → Prop) (w : World) (B : Nat) (hk : ∀ k, keep k → k < B) (hB : B ≤ w.heap.size) : OwnFrom B (fun (_ : β) W => Keeps keep w W ∧ w.heap.size ≤ W.heap.size) := by
  intro s W W' row ⟨hs, hz⟩ hg hr
  refine ⟨fun k hkk => ?_, Nat.le_trans hz hg.size⟩
  rw [← hs k hkk]
  refine hg.block k (by have := hk k hkk; omega) (fun e => ?_)
  have := (hr k e.symm).1
  have := hk k hkk
  omega

/-- It has left at the first place that differs. -/
def Left (l0 l1 : List Int) (B : Nat) (pre : List (Fin l0.length)) (W : World) : Prop :=
  ∃ ini last, pre = ini ++ [last] ∧ (∀ x ∈ ini, rd l0 (x.val : Int) = rd l1 (x.val : Int)) ∧ rd l0 (last.val : Int) ≠ rd l1 (last.val : Int) ∧ W.cell? ⟨B, 0, none⟩ = some (.int .i64 (if decide (rd l0 (last.val : Int) > rd l1 (last.val : Int)) = true then 1 else -1))
theorem Left.mk {l0 l1 : List Int} {B : Nat} {pre : List (Fin l0.length)} {W : World} {x : Nat} (hx : x < l0.length) (hp : ∀ x ∈ pre, rd l0 (x.val : Int) = rd l1 (x.val : Int)) (hne : rd l0 (x : Int) ≠ rd l1 (x : Int)) {u : Value} (hc : W.cell? ⟨B, 0, none⟩ = some u) (v : Int)
    (hv : v = if decide (rd l0 (x : Int) > rd l1 (x : Int)) = true then 1 else -1) : Left l0 l1 B (pre ++ [⟨x, hx⟩]) (W.setCell ⟨B, 0, none⟩ (.int .i64 v)) :=
  ⟨pre, ⟨x, hx⟩, rfl, hp, hne, by rw [hv]; exact World.cell?_setCell_same' _ _ _ (by rw [hc]; rfl)⟩

set_option maxRecDepth 100000 in
set_option maxHeartbeats 4000000 in
theorem same (A0 : Option Addr) (c0 : Nat) (l0 : List Int) (A1 : Option Addr) (c1 : Nat) (l1 : List Int) (w : World) (S : Nat → Prop) (hS : ∀ b, S b → b < w.heap.size) (hr0 : Nums w.heap S .u32 A0 l0) (hr1 : Nums w.heap S .u32 A1 l1) (hm0 : l0.length ≤ 9223372036854775807) (hl : l0.length = l1.length) :
    Calls Tryd.prog 87 #[.slice A0 l0.length c0, .slice A1 l1.length c1] w fun e w' => e = .returned (.int .i64 (cmpFrom l0 l1 l0.length)) ∧ Below w.heap.size w w' := by
  have hBl : (((l0.length : Int)) != ((l1.length : Int))) = false := by simp [hl]
  obtain ⟨n1, hn1⟩ : ∃ n, n = l1.length := ⟨_, rfl⟩
  rw [← hn1] at hl hBl ⊢
  refine (callsIn_wide (n := 3)).1 ?_
  refine callsIn_of_wp_marks Tryd.func87 rfl trivial ?_ rfl
  simp only [Tryd.ntmps87, List.size_toArray, List.length_cons, List.length_nil, Nat.reduceAdd, Nat.reduceSub, Array.replicate_succ, Array.replicate_zero, List.push_toArray, List.append_toArray, List.nil_append, List.cons_append]
  have hl' := Lib.hid hl
  have hn1' := Lib.hid hn1
  clear hl hn1
  gi_wp2_with (refine ⟨trivial, ?_⟩; gi_at_call 108; refine (backward_in Fence.wide (3 - 1) trivial rfl _ _ _ _).mono ?_; rintro e w' ⟨rfl, rfl⟩)
  have bM := (Boxed.new w 82 (.slice A1 n1 c1))
  have bR := Boxed.new (w.alloc (.cells #[.slice A1 n1 c1] 82)) 3 (.int .i64 0)
  have bS := Boxed.new ((w.alloc (.cells #[.slice A1 n1 c1] 82)).alloc (.cells #[.int .i64 0] 3)) 82 (.slice A0 l0.length c0)
  rw [World.size_alloc] at bR
  rw [World.size_alloc, World.size_alloc] at bS
  replace bM := (bM.alloc (.cells #[.int .i64 0] 3)).alloc (.cells #[.slice A0 l0.length c0] 82)
  replace bR := bR.alloc (.cells #[.slice A0 l0.length c0] 82)
  have hB0 : Below w.heap.size w (((w.alloc (.cells #[.slice A1 n1 c1] 82)).alloc (.cells #[.int .i64 0] 3)).alloc (.cells #[.slice A0 l0.length c0] 82)) := (((Below.refl _ w).alloc (Nat.le_refl _) _).alloc (by simp) _).alloc (by simp; omega) _
  obtain ⟨W0, hW0⟩ : ∃ W0, (((w.alloc (.cells #[.slice A1 n1 c1] 82)).alloc (.cells #[.int .i64 0] 3)).alloc (.cells #[.slice A0 l0.length c0] 82)) = W0 := ⟨_, rfl⟩
  have hsz : W0.heap.size = w.heap.size + 3 := by rw [← hW0]; simp
  rw [hW0] at bM bR bS hB0 ⊢
  clear hW0
  obtain ⟨keep, hkeep⟩ : ∃ keep : Nat → Prop, keep = fun k => k < w.heap.size ∨ k = w.heap.size + 2 := ⟨_, rfl⟩
  have hkb : ∀ k, keep k → k < W0.heap.size := by rw [hkeep]; intro k hk; rcases hk with h | h <;> omega
  have hRd : BwNat.Reads keep W0 (w.heap.size + 2) A0 c0 l0 := by
    intro W hW
    refine ⟨Boxed.cell ((hW _ (by rw [hkeep]; exact .inr rfl)).trans bS), ?_⟩
    refine K.Nums.reads (S := S) (K.Nums.mono hr0 fun b hb => ⟨hb, ?_⟩) hm0
    rw [hW b (by rw [hkeep]; exact .inl (hS b hb))]
    exact hB0.block b (hS b hb)
  have hkr : ¬ keep (w.heap.size + 1) := by rw [hkeep]; omega
  clear hkeep
  refine wpIn_rangeFunc_ownG (F := Fence.wide) (n := 3) rfl (by omega) (gf := 126) (lb := #[.pointer (some ⟨w.heap.size + 2, 0, none⟩)]) rfl trivial (enters_of Tryd.func126 (by kernel_rfl) rfl)
    (BwNat.stops Fence.wide (3 - 1) trivial rfl (by omega) (w.heap.size + 2) c0 A0 l0 hm0 keep W0 hkb hRd) BwNat.Keeps.trans (BwNat.Keeps.b hkb) (Below.refl _ _) (fun _ => rfl)
    (fun pre W => ((∀ x ∈ pre, rd l0 (x.val : Int) = rd l1 (x.val : Int)) ∧ (W.cell? ⟨w.heap.size + 1, 0, none⟩ = some (.int .i64 0) ∧ W.frozen? ⟨w.heap.size + 1, 0, none⟩ = false) ∧ W.cell? ⟨w.heap.size, 0, none⟩ = some (.slice A1 n1 c1)) ∧ Below w.heap.size w W)
    (fun c pre W => (c = .ret ∧ Left l0 l1 (w.heap.size + 1) pre W) ∧ Below w.heap.size w W)
    (OwnFrom.and (Own.from (fun s A B row hs hg hr => ⟨hs.1, ⟨cell_kept hs.2.1.1 hg hr, (frozen_kept hs.2.1.1 hg hr).trans hs.2.1.2⟩, cell_kept hs.2.2 hg hr⟩) _) (ownFrom_below (Nat.le_refl _) (by omega)))
    (fun c => OwnFrom.and (Own.from (fun s A B row hs hg hr => ⟨hs.1, by obtain ⟨ini, last, e1, e2, e3, e4⟩ := hs.2; exact ⟨ini, last, e1, e2, e3, cell_kept e4 hg hr⟩⟩) _) (ownFrom_below (Nat.le_refl _) (by omega)))
    ⟨⟨by simp, ⟨bR.cell, bR.frozen⟩, bM.cell⟩, hB0⟩
    ?a1 ?assign ?body ?done ?stop
  case assign =>
    intro l x W K hK
    gi_wp2
    exact hK
  case body =>
    rintro l pre x W ⟨⟨hp, ⟨hcr, hfr⟩, hcm⟩, hB⟩ _
    obtain ⟨x, hx⟩ := x
    have hx1 : x < n1 := by rw [← hl'.out]; exact hx
    obtain ⟨ad, rfl, hcx⟩ := K.ReadsInt.at_ (K.Nums.reads (S := S) (K.Nums.mono hr1 fun b hb => ⟨hb, hB.block b (hS b hb)⟩) (by have := hl'.out; have := hn1'.out; omega)) (x : Int) (by omega) (by have := hn1'.out; omega)
    replace hcx : W.cell? (ad.add x) = some (.int .u32 (rd l1 (x : Int))) := hcx
    dsimp only
    by_cases he : rd l0 (x : Int) = rd l1 (x : Int)
    · have hne : ((rd l0 (x : Int)) != (rd l1 (x : Int))) = false := by simp [he]
      have he' := Lib.hid he
      clear he
      gi_wp2
      exact ⟨KeepsFrom.refl _ _, Keeps.refl _ _, ⟨fun y hy => (List.mem_append.1 hy).elim (hp y) (fun e => by simp at e; subst e; exact he'.out), ⟨hcr, hfr⟩, hcm⟩, hB⟩
    · have hne : ((rd l0 (x : Int)) != (rd l1 (x : Int))) = true := by simp [he]
      by_cases hgt : rd l0 (x : Int) > rd l1 (x : Int)
      · have hg1 : decide (rd l1 (x : Int) < rd l0 (x : Int)) = true := decide_eq_true hgt
        gi_wp2_with (refine ⟨trivial, ?_⟩; gi_at_call 115; refine (CallsIn.inRound l (callsIn_wide.2 (sign_t _ _))).mono ?_; rintro e w' ⟨rfl, rfl⟩)
        exact ⟨(KeepsOthers.setCell _ _ _).from _, ⟨rfl, Left.mk hx hp he hcr 1 (by simp [hgt])⟩, hB.setCell (p := ⟨w.heap.size + 1, 0, none⟩) (by simp) _⟩
      · have hg1 : decide (rd l1 (x : Int) < rd l0 (x : Int)) = false := decide_eq_false hgt
        gi_wp2_with (refine ⟨trivial, ?_⟩; gi_at_call 115; refine (CallsIn.inRound l (callsIn_wide.2 (sign_t _ _))).mono ?_; rintro e w' ⟨rfl, rfl⟩)
        exact ⟨(KeepsOthers.setCell _ _ _).from _, ⟨rfl, Left.mk hx hp he hcr (-1) (by simp [hgt])⟩, hB.setCell (p := ⟨w.heap.size + 1, 0, none⟩) (by simp) _⟩
  case done =>
    rintro D ys W hD rfl ⟨⟨hne, ⟨hcr, hfr⟩, hcm⟩, hB⟩ hK
    gi_wp2
    have hK' := (KeepsOthers.setCell W ⟨w.heap.size + 1, 0, none⟩ (.int .i64 0)).same D _ hK rfl
    refine ⟨by simp, .inl ⟨_, _, rfl, run_takeDeferred hK', ?_⟩⟩
    have hc5 := cell_kept (World.cell?_setCell_same' W ⟨w.heap.size + 1, 0, none⟩ (.int .i64 0) (by rw [hcr]; rfl)) (grownBy_putObj' _ D (.deferred none)) (fun r e => by cases e; exact ⟨_, hK', rfl⟩)
    have hz : cmpFrom l0 l1 l0.length = 0 := by
      rw [from_eq l0 l1 l0.length 0 (by omega) (fun j h1 h2 => hne ⟨j, h2⟩ (by rw [came_all]; simp))]; rfl
    refine ⟨.int .i64 0, ?_, by rw [hz], (hB.setCell (p := ⟨w.heap.size + 1, 0, none⟩) (by simp) _).trans (belowK_b (w := w) (Nat.le_refl _) _ D _ _ (by omega) hK' rfl rfl)⟩
    simp [results, Tryd.f87, go_sem, hc5]
  case stop =>
    rintro D c pre W hD ⟨m, hm, rfl⟩ ⟨⟨rfl, ini, last, e1, e2, e3, hcr⟩, hB⟩ hK
    gi_wp2
    refine ⟨by simp, .inl ⟨_, _, rfl, run_takeDeferred hK, ?_⟩⟩
    have hc5 := cell_kept hcr (grownBy_putObj' _ D (.deferred none)) (fun r e => by cases e; exact ⟨_, hK, rfl⟩)
    have hml : m < l0.length := by
      rcases Nat.lt_or_ge m l0.length with h | h
      · exact h
      · rw [show m = l0.length by omega, came_top] at e1
        simp at e1
    rw [came_next _ m hml] at e1
    obtain ⟨e4, e5⟩ := List.append_inj' e1 rfl
    obtain rfl : (⟨m, hml⟩ : Fin l0.length) = last := by simpa using e5
    have hz := from_ne l0 l1 l0.length m hml (fun j h1 h2 => e2 ⟨j, h2⟩ (by rw [← e4]; exact mem_came (by omega) h2)) e3
    refine ⟨_, ?_, by rw [hz], hB.trans (belowK_b (w := w) (Nat.le_refl _) W D _ _ (by omega) hK rfl rfl)⟩
    simp only [results, Tryd.f87]
    simp [go_sem, hc5]

set_option maxRecDepth 100000 in
set_option maxHeartbeats 1000000 in
theorem other (A0 : Option Addr) (c0 : Nat) (l0 : List Int) (A1 : Option Addr) (c1 : Nat) (l1 : List Int) (w : World) (h0 : l0.length ≤ 9223372036854775807) (h1 : l1.length ≤ 9223372036854775807) (hl : l0.length ≠ l1.length) :
    Calls Tryd.prog 87 #[.slice A0 l0.length c0, .slice A1 l1.length c1] w fun e w' => e = .returned (.int .i64 (if l0.length > l1.length then 1 else -1)) ∧ Below w.heap.size w w' := by
  have hBl : (((l0.length : Int)) != ((l1.length : Int))) = true := by simp; omega
  have hBn : (l0.length != l1.length) = true := by simp; omega
  have hs : (if l0.length > l1.length then (1 : Int) else -1) = if decide (l0.length > l1.length) = true then 1 else -1 := by simp
  rw [hs]
  obtain ⟨b, hb⟩ : ∃ b, b = decide (l0.length > l1.length) := ⟨_, rfl⟩
  rw [← hb]
  have hb1 : decide ((l1.length : Int) < (l0.length : Int)) = b := by rw [hb]; simp
  have hb2 : decide (l1.length < l0.length) = b := hb.symm
  clear hs hb
  go_enter Tryd.func87, Tryd.ntmps87
  cases b
  all_goals
    go_wp2_with (go_at_call 115; refine (sign_t _ _).mono ?_; rintro e w' ⟨rfl, rfl⟩)
    refine bodyPost_ret (v := .int .i64 _) (by simp [results, Tryd.f87, go_sem]) rfl ⟨rfl, ?_⟩
    exact ((Below.refl _ w).alloc (Nat.le_refl _) _).alloc (by simp) _
end Hcmp

theorem cmp_ok {inv : World → Prop} : CallT Tryd.prog 87 [.sl (.int .u32), .sl (.int .u32)] [.int .i64] inv cmpF := by
  intro y r h w fz0 vs hfz _ hd
  obtain ⟨hc, rfl⟩ := cond_some h
  simp only [Bool.and_eq_true, decide_eq_true_eq] at hc
  obtain ⟨h0, h1⟩ := hc
  obtain ⟨v, us, rfl, d1, d2⟩ := unCons hd
  obtain ⟨A0, c0, e0, _, n0⟩ := unSl d1
  obtain ⟨A1, c1, rfl, _, n1⟩ := unSl d2
  cases e0
  by_cases hl : y.1.length = y.2.length
  · rw [if_pos hl]
    refine (Hcmp.same A0 c0 y.1 A1 c1 y.2 w fz0 hfz n0 n1 h0 hl).mono fun e w' ⟨he, hb⟩ => ?_
    subst he
    exact retT_plain (ts := [.int .i64]) (r := cmpFrom y.1 y.2 y.1.length) [_] hb rfl (denInt _ _)
  · rw [if_neg hl]
    refine (Hcmp.other A0 c0 y.1 A1 c1 y.2 w h0 h1 hl).mono fun e w' ⟨he, hb⟩ => ?_
    subst he
    exact retT_plain (ts := [.int .i64]) [_] hb rfl (denInt _ _)
end Go.Proofs.YtcdcijhfjiahkaaDoorR.H
