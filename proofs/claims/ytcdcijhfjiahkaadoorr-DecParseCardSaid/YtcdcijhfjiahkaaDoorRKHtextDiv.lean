/- (abacist/divide.limbs).text: the digits as bytes, the highest first: the contract, by hand (a range over slices.Backward that appends). -/
import Derived.Test.YtcdcijhfjiahkaaDoorRBwDiv
import Derived.Test.YtcdcijhfjiahkaaDoorRKM
import Derived.Test.YtcdcijhfjiahkaaDoorRKHtextNat
import Derived.Maps.AppendAt
namespace Go.Proofs.YtcdcijhfjiahkaaDoorR.H
open Go Go.RowKit Go.Shelf Go.Proofs.YtcdcijhfjiahkaaDoorR.BwDiv
open Go.Proofs.YtcdcijhfjiahkaaDoorR.K (Ty den rd nums nums_append add_plain ReadsInt own_base own_string Nums unSl bytesOf unCons slDen ret_str ret_int ret_sl str_bytes RetT CallT retT_plain denInt denStr cond_some)
attribute [local go_sem] Oper.semAt_some
set_option linter.unusedVariables false
set_option linter.unusedSimpArgs false

/-- Each digit's four bytes. -/
def be4Div (l : List Int) : List Int := l.flatMap fun n => [n / 16777216 % 256, n / 65536 % 256, n / 256 % 256, n % 256]

namespace HtextDiv
theorem be4_length (l : List Int) : (be4Div l).length = 4 * l.length := by
  induction l with
  | nil => rfl
  | cons a l ih => simp only [be4Div, List.flatMap_cons, List.length_append, List.length_cons, List.length_nil] at ih ⊢; omega
theorem be4_snoc (l : List Int) (n : Int) : be4Div (l ++ [n]) = be4Div l ++ [n / 16777216 % 256, n / 65536 % 256, n / 256 % 256, n % 256] := by simp [be4Div]

theorem appendedK {W w1 : World} {n₀ n₁ B : Nat} {t e : TypeId} {size : Nat} {v v' : Value} {k m : Nat} {xs ys : List Value} {tmp : Obj}
    (hv : Boxed W B t v) (hte : t ≠ e) (hrow : W.ownsRow n₁ e size v k xs) (hn₁ : n₁ ≤ W.heap.size) (hB : n₀ ≤ B) (h01 : n₀ ≤ n₁)
    (hown' : w1.ownsRow n₁ e size v' m ys) (hgrow : (W.alloc tmp).grownBy w1 v.ownBlock) :
    Boxed w1 B t v ∧ Boxed (w1.setCell ⟨B, 0, none⟩ v') B t v' ∧ (w1.setCell ⟨B, 0, none⟩ v').ownsRow n₁ e size v' m ys ∧ KeepsOthers W (w1.setCell ⟨B, 0, none⟩ v') ∧ Below n₀ W (w1.setCell ⟨B, 0, none⟩ v') ∧
      (∀ i, i < n₁ → i ≠ B → (w1.setCell ⟨B, 0, none⟩ v').heap[i]? = W.heap[i]?) ∧ W.heap.size ≤ (w1.setCell ⟨B, 0, none⟩ v').heap.size := by
  have hv1 : Boxed w1 B t v := (hv.alloc tmp).kept hgrow (hv.not_row hte hrow)
  have hbase : ∀ j, v.ownBlock = some j → n₁ ≤ j := fun j ej => own_base hrow j ej
  refine ⟨hv1, hv1.set v', hown'.kept (grownBy_setCell' w1 B v') (.inr (hv1.not_row hte hown').symm), ?_, ?_, ?_, by have := hgrow.size; simp at this ⊢; omega⟩
  · refine ((KeepsOthers.alloc W tmp).trans (KeepsOthers.of_grownBy hgrow fun j o ej hj => ?_)).trans (KeepsOthers.setCell _ _ _)
    rcases (hrow.alloc tmp).2 with ⟨rfl, _⟩ | ⟨g, cap, cur, rfl, _, hgb, _⟩
    · simp [Value.ownBlock] at ej
    · obtain rfl : g = j := by simpa [Value.ownBlock] using ej
      rw [hgb] at hj; cases hj; rfl
  · exact (((Below.refl n₀ W).alloc (Nat.le_trans h01 hn₁) tmp).grown hgrow (by simp; omega) fun j ej => Nat.le_trans h01 (hbase j ej)).setCell (p := ⟨B, 0, none⟩) hB v'
  · intro i hi hne
    rw [(grownBy_setCell' w1 B v').block i (by have := hgrow.size; simp at this; omega) (by intro e; injection e with e; exact hne e)]
    rw [hgrow.block i (by simp; omega) (by intro e; have := hbase i e.symm; omega)]
    exact Below.heap_alloc W tmp i (by omega)

theorem cells_new (W : World) (xs : List Value) (e : TypeId) (j : Nat) (u : Value) (h : xs[j]? = some u) : (W.alloc (.cells xs.toArray e)).cell? ((⟨W.heap.size, 0, none⟩ : Addr).add j) = some u := by
  rw [add_plain]
  have h1 := World.alloc_heap_new W (.cells xs.toArray e)
  simp only [World.cell?, h1]
  simp [h]

/-- The bytes that have come. -/
def Row (W : World) (n₁ B : Nat) (zs : List Int) (pre : List (Fin zs.length)) : Prop :=
  ∃ v, Boxed W B 89 v ∧ W.ownsRow n₁ 5 1 v (4 * pre.length) (nums .u8 (be4Div (pre.map fun x => rd zs (x.val : Int))))
theorem Row.own (n₁ B : Nat) (zs : List Int) : Own (fun pre W => Row W n₁ B zs pre) := by
  intro s W W' row ⟨v, hv, hr⟩ hg hrow
  obtain ⟨v', h1, h2, _⟩ := holdsRow_own n₁ B 89 5 1 (fun pre => 4 * pre.length) (fun pre => nums .u8 (be4Div (pre.map fun x => rd zs (x.val : Int)))) (fun _ _ => True) s W W' row ⟨v, hv, hr, trivial⟩ hg hrow
  exact ⟨v', h1, h2⟩
theorem all_rev (zs : List Int) : (came zs.length 0).map (fun x => rd zs (x.val : Int)) = zs.reverse := by
  rw [came_all]
  apply List.ext_getElem
  · simp
  · intro i h1 h2
    simp at h1 h2
    simp [rd]

set_option maxRecDepth 100000 in
set_option maxHeartbeats 4000000 in
theorem main {inv : World → Prop} (A0 : Option Addr) (c0 : Nat) (l0 cc : List Int) (r : List UInt8) (w : World) (fz0 : Nat → Prop) (hfz : ∀ b, fz0 b → b < w.heap.size) (hinv : ∀ W, Below w.heap.size w W → inv W) (hr0 : Nums w.heap fz0 .u32 A0 l0) (hc0 : l0.length ≤ c0) (hlen : cc.length * 4 ≤ 140737488355328)
    (hcc : cc = l0)
    (hTr : ∀ W, inv W → Calls Tryd.prog 17 #[.string (strOfNums (be4Div cc.reverse))] W (RetT [.str] W (fun _ => False) r)) :
    Calls Tryd.prog 123 #[.slice A0 l0.length c0] w fun e w' => e = .returned (.string ⟨r.toArray⟩) ∧ Below w.heap.size w w' := by
  have hi5 : (Tryd.prog.info? 5).map (fun i => (i.zero, i.size, i.bytes)) = some (some (.int .u8 0), 1, 1) := by kernel_rfl
  obtain ⟨i0, hi, hz0, hz1, hz2⟩ := info_parts hi5
  clear hi5
  refine (callsIn_wide (n := 3)).1 ?_
  refine callsIn_of_wp_marks Tryd.func123 rfl trivial ?_ rfl
  simp only [Tryd.ntmps123, List.size_toArray, List.length_cons, List.length_nil, Nat.reduceAdd, Nat.reduceSub, Array.replicate_succ, Array.replicate_zero, List.push_toArray, List.append_toArray, List.nil_append, List.cons_append]
  have bB := Boxed.new w 89 (.slice none 0 0)
  have hB1 : Below w.heap.size w (w.alloc (.cells #[.slice none 0 0] 89)) := (Below.refl _ w).alloc (Nat.le_refl _) _
  subst hcc
  have bB1 := bB
  have hBw1 := hB1
  gi_wp2_with (first | (refine ⟨trivial, ?_⟩; gi_at_call 134; refine (backward_in Fence.wide (3 - 1) trivial rfl _ _ _ _).mono ?_; rintro e w' ⟨rfl, rfl⟩))
  have bS := Boxed.new (w.alloc (.cells #[.slice none 0 0] 89)) 133 (.slice A0 cc.length c0)
  have bB' := bB1.alloc (.cells #[.slice A0 cc.length c0] 133)
  have hBW : Below w.heap.size w ((w.alloc (.cells #[.slice none 0 0] 89)).alloc (.cells #[.slice A0 cc.length c0] 133)) := hBw1.alloc (by have := hBw1.size; omega) _
  have hsz1 : w.heap.size + 1 ≤ (w.alloc (.cells #[.slice none 0 0] 89)).heap.size := by simp
  obtain ⟨W0, hW0⟩ : ∃ W0, (w.alloc (.cells #[.slice none 0 0] 89)).alloc (.cells #[.slice A0 cc.length c0] 133) = W0 := ⟨_, rfl⟩
  have hold : ∀ k, k < (w.alloc (.cells #[.slice none 0 0] 89)).heap.size → W0.heap[k]? = (w.alloc (.cells #[.slice none 0 0] 89)).heap[k]? := fun k hk => by rw [← hW0]; exact Below.heap_alloc _ _ k hk
  have hsz : W0.heap.size = (w.alloc (.cells #[.slice none 0 0] 89)).heap.size + 1 := by rw [← hW0]; simp
  rw [hW0] at bB' bS hBW ⊢
  clear hW0
  simp only [World.size_alloc] at bS hsz hsz1 hold
  obtain ⟨SS, hSSd⟩ : ∃ SS : Nat → Prop, SS = fz0 := ⟨_, rfl⟩
  have hN : Nums (w.alloc (.cells #[.slice none 0 0] 89)).heap SS .u32 A0 cc := by rw [hSSd]; exact K.Nums.mono hr0 fun b hb => ⟨hb, hB1.block b (hfz b hb)⟩
  have hSS : ∀ b, SS b → b < w.heap.size + 1 ∧ b ≠ w.heap.size := by
    rw [hSSd]
    intro b hb
    have := hfz b hb; exact ⟨by omega, by omega⟩
  clear hSSd
  obtain ⟨keep, hkeep⟩ : ∃ keep : Nat → Prop, keep = fun k => k < W0.heap.size ∧ k ≠ w.heap.size := ⟨_, rfl⟩
  have hkb : ∀ k, keep k → k < W0.heap.size := by rw [hkeep]; exact fun k hk => hk.1
  have hRd : BwDiv.Reads keep W0 (w.heap.size + 1) A0 c0 cc := by
    intro W hW
    refine ⟨Boxed.cell ((hW _ (by rw [hkeep]; exact ⟨by omega, by omega⟩)).trans bS), ?_⟩
    refine K.Nums.reads (S := SS) (K.Nums.mono hN fun b hb => ⟨hb, ?_⟩) (by omega)
    obtain ⟨q1, q2⟩ := hSS b hb
    rw [hW b (by rw [hkeep]; exact ⟨by omega, q2⟩)]
    exact hold b q1
  have hkk : ∀ k, keep k → k < W0.heap.size ∧ k ≠ w.heap.size := by rw [hkeep]; exact fun _ h => h
  clear hkeep
  refine wpIn_rangeFunc_ownG (F := Fence.wide) (n := 3) rfl (by omega) (gf := 156) (lb := #[.pointer (some ⟨(w.heap.size + 1), 0, none⟩)]) rfl trivial (enters_of Tryd.func156 (by kernel_rfl) rfl)
    (BwDiv.stops Fence.wide (3 - 1) trivial rfl (by omega) (w.heap.size + 1) c0 A0 cc (by omega) keep W0 hkb hRd) BwDiv.Keeps.trans (BwDiv.Keeps.b hkb) (Below.refl _ _) (fun _ => rfl)
    (fun pre W => (Row W W0.heap.size w.heap.size cc pre ∧ W0.heap.size ≤ W.heap.size) ∧ Below w.heap.size w W)
    (fun _ _ _ => False)
    (OwnFrom.and (fun s A B row hs hg hr => ⟨(Row.own W0.heap.size w.heap.size cc) s A B row hs.1 hg (fun r e => (hr r e).2), Nat.le_trans hs.2 hg.size⟩) (ownFrom_below (Nat.le_refl _) (by omega)))
    (fun _ _ _ _ _ hs _ _ => hs)
    ⟨⟨⟨_, bB', World.ownsRow_nil _ _ _ _⟩, Nat.le_refl _⟩, hBW⟩
    ?a1 ?assign ?body ?done ?stop
  case assign =>
    intro l x W K hK
    gi_wp2
    exact hK
  case body =>
    rintro l pre x W ⟨⟨⟨v, hv, hown⟩, hWsz⟩, hB⟩ hlt
    have hc := hv.cell
    gi_wp2_with (gi_at_builtin; refine wpListIn_append_own _ rfl _ _ 89 rfl W0.heap.size 5 i0 (.int .u8 0) 1 1 Tryd.underlying89 hi hz0 hz1 hz2 rfl (by decide) _ _ _ rfl (hown.alloc _) ⟨W.heap.size, 0, none⟩ 4 4 _ rfl rfl (cells_new _ _ _) (by simp [Value.oneCell']) (by unfold maxLen; omega) (by omega) (by simp; omega) ?_; intro v' w1 hown' hgrow _; obtain ⟨g', cap', rfl⟩ := ownsRow_succ hown'; obtain ⟨hv1, hv2, hr2, hk2, hb2, hkeep2, hsz2⟩ := appendedK hv (by decide) hown hWsz (Nat.le_refl _) (by omega) hown' hgrow; have hc1 := hv1.cell; have hf1 := hv1.frozen)
    refine ⟨hk2.from _, fun k hk => hkeep2 k (hkk k hk).1 (hkk k hk).2, ⟨⟨_, hv2, ?_⟩, Nat.le_trans hWsz hsz2⟩, hB.trans hb2⟩
    rw [List.map_append, List.map_cons, List.map_nil, be4_snoc, nums_append]
    simpa [nums, Nat.mul_add] using hr2
  case done =>
    rintro D ys W hD rfl ⟨⟨⟨v, hv, hown⟩, hWsz⟩, hB⟩ hK
    have hc := hv.cell
    rw [all_rev, came_length] at hown
    have hcv := own_string (P := Tryd.prog) Tryd.underlying89 Tryd.underlying5 Tryd.underlying9 hown
    obtain ⟨s, hs⟩ : ∃ s, s = strOfNums (be4Div cc.reverse) := ⟨_, rfl⟩
    rw [← hs] at hcv hTr
    clear hs hown
    have HT := Lib.hid hTr
    clear hTr
    gi_wp2_with (refine ⟨trivial, ?_⟩; gi_at_call 17; refine (callsIn_wide.2 (HT.out _ (hinv _ hB))).mono ?_; intro e w2 hret; obtain ⟨rfl, hb2⟩ := ret_str hret)
    have hK2 : w2.heap[D]? = some (.deferred (some [])) := (hb2.block D (Array.getElem?_eq_some_iff.1 hK).1).trans hK
    refine ⟨by simp, .inl ⟨_, _, rfl, run_takeDeferred hK2, ?_⟩⟩
    exact ⟨_, results_tmp rfl _ _ _, rfl, (hB.trans (hb2.mono hB.size)).trans (belowK_b (w := w) (Nat.le_refl _) w2 D _ _ (by have := hBW.size; omega) hK2 rfl rfl)⟩
  case stop =>
    rintro D c pre W _ _ h _
    exact h.elim
end HtextDiv
def textDivF (l : List Int) : Option (List UInt8) := cond (decide (l.length * 4 ≤ 140737488355328)) (some (Lib.trimLeftB (bytesOf (be4Div l.reverse)) 0)) none
theorem textDiv_ok {inv : World → Prop} (hk : ∀ w w', inv w → Below w.heap.size w w' → inv w') (hTrim : CallT Tryd.prog 17 [.str] [.str] inv trimF) :
    CallT Tryd.prog 123 [.sl (.int .u32)] [.str] inv textDivF := by
  intro y r h w fz0 vs hfz hinv hd
  obtain ⟨hc, rfl⟩ := cond_some h
  simp only [decide_eq_true_eq] at hc
  obtain ⟨A0, c0, rfl, hc0, hn⟩ := unSl hd
  refine (HtextDiv.main (inv := inv) A0 c0 y y (Lib.trimLeftB (bytesOf (be4Div y.reverse)) 0) w fz0 hfz (fun W hb => hk w W hinv hb) hn hc0 hc rfl ?_).mono fun e w' ⟨he, hb⟩ => ?_
  · intro W hi
    rw [str_bytes]
    exact hTrim (bytesOf (be4Div y.reverse)) _ rfl W (fun _ => False) [.string ⟨(bytesOf (be4Div y.reverse)).toArray⟩] (fun _ h => h.elim) hi (denStr _)
  · subst he
    exact retT_plain (ts := [.str]) [_] hb rfl (denStr _)
end Go.Proofs.YtcdcijhfjiahkaaDoorR.H
