/- Part 5 of the proof: the machine, the tables and the pure laws that the last text joins. -/
import Derived.Test.YtenebjaipfcflaaDoorZ4
import Derived.Maps.AppendAt
import Derived.BigRegionIn
import Derived.Test.YtenebjaipfcflaaDoorProg
import Derived.Lib.BitFns
import Derived.Lib.ItoaNum
import Derived.Laws.BitsLemmas
/- (abacist/divide.limbs).text: the digits as bytes, the highest first: the contract, by hand (a range over slices.Backward that appends). -/
namespace Go.Proofs.YtenebjaipfcflaaDoor.H
open Go Go.RowKit Go.Shelf Go.Proofs.YtenebjaipfcflaaDoor.BwDiv
open Go.Proofs.YtenebjaipfcflaaDoor.K (Ty den rd nums nums_append add_plain ReadsInt own_base own_string Nums unSl bytesOf unCons slDen ret_str ret_int ret_sl str_bytes RetT CallT retT_plain denInt denStr cond_some)
attribute [local go_sem] Oper.semAt_some
set_option linter.unusedVariables false
set_option linter.unusedSimpArgs false

/-- Each digit's four bytes. -/
def be4Div (l : List Int) : List Int := l.flatMap fun n => [n / 16777216 % 256, n / 65536 % 256, n / 256 % 256, n % 256]

namespace HtextDiv
theorem be4_snoc (l : List Int) (n : Int) : be4Div (l ++ [n]) = be4Div l ++ [n / 16777216 % 256, n / 65536 % 256, n / 256 % 256, n % 256] := by simp [be4Div]

theorem appendedK {W w1 : World} {n₀ n₁ B : Nat} {t e : TypeId} {size : Nat} {v v' : Value} {k m : Nat} {xs ys : List Value} {tmp : Obj}
    (hv : Boxed W B t v) (hte : t ≠ e) (hrow : W.ownsRow n₁ e size v k xs) (hn₁ : n₁ ≤ W.heap.size) (hB : n₀ ≤ B) (h01 : n₀ ≤ n₁)
    (hown' : w1.ownsRow n₁ e size v' m ys) (hgrow : (W.alloc tmp).grownBy w1 v.ownBlock) :
    Boxed w1 B t v ∧ Boxed (w1.setCell ⟨B, 0, none⟩ v') B t v' ∧ (w1.setCell ⟨B, 0, none⟩ v').ownsRow n₁ e size v' m ys ∧ KeepsOthers W (w1.setCell ⟨B, 0, none⟩ v') ∧ Below n₀ W (w1.setCell ⟨B, 0, none⟩ v') ∧
      (∀ i, i < n₁ → i ≠ B → (w1.setCell ⟨B, 0, none⟩ v').heap[i]? = W.heap[i]?) ∧ W.heap.size ≤ (w1.setCell ⟨B, 0, none⟩ v').heap.size := by
  have hv1 : Boxed w1 B t v := (hv.alloc tmp).kept hgrow (hv.not_row hte hrow)
  have hbase : ∀ j, v.ownBlock = some j → n₁ ≤ j := fun j ej => own_base hrow j ej
  refine ⟨hv1, hv1.set v', hown'.kept (grownBy_setCell' w1 B v') (.inr (hv1.not_row hte hown').symm), ?_, ?_, ?_, by have := hgrow.size; simp at this ⊢; omega⟩
  · refine ((KeepsOthers.alloc W tmp).trans (KeepsOthers.of_grownBy hgrow fun j o ej hj => ?_)).trans (KeepsOthers.setCell _ _ _)
    rcases (hrow.alloc tmp).2 with ⟨rfl, _⟩ | ⟨g, cap, cur, rfl, _, hgb, _⟩
    · simp [Value.ownBlock] at ej
    · obtain rfl : g = j := by simpa [Value.ownBlock] using ej
      rw [hgb] at hj; cases hj; rfl
  · exact (((Below.refl n₀ W).alloc (Nat.le_trans h01 hn₁) tmp).grown hgrow (by simp; omega) fun j ej => Nat.le_trans h01 (hbase j ej)).setCell (p := ⟨B, 0, none⟩) hB v'
  · intro i hi hne
    rw [(grownBy_setCell' w1 B v').block i (by have := hgrow.size; simp at this; omega) (by intro e; injection e with e; exact hne e)]
    rw [hgrow.block i (by simp; omega) (by intro e; have := hbase i e.symm; omega)]
    exact Below.heap_alloc W tmp i (by omega)

theorem cells_new (W : World) (xs : List Value) (e : TypeId) (j : Nat) (u : Value) (h : xs[j]? = some u) : (W.alloc (.cells xs.toArray e)).cell? ((⟨W.heap.size, 0, none⟩ : Addr).add j) = some u := by
  rw [add_plain]
  have h1 := World.alloc_heap_new W (.cells xs.toArray e)
  simp only [World.cell?, h1]
  simp [h]

/-- The bytes that have come. -/
def Row (W : World) (n₁ B : Nat) (zs : List Int) (pre : List (Fin zs.length)) : Prop :=
  ∃ v, Boxed W B 66 v ∧ W.ownsRow n₁ 5 1 v (4 * pre.length) (nums .u8 (be4Div (pre.map fun x => rd zs (x.val : Int))))
theorem Row.own (n₁ B : Nat) (zs : List Int) : Own (fun pre W => Row W n₁ B zs pre) := by
  intro s W W' row ⟨v, hv, hr⟩ hg hrow
  obtain ⟨v', h1, h2, _⟩ := holdsRow_own n₁ B 66 5 1 (fun pre => 4 * pre.length) (fun pre => nums .u8 (be4Div (pre.map fun x => rd zs (x.val : Int)))) (fun _ _ => True) s W W' row ⟨v, hv, hr, trivial⟩ hg hrow
  exact ⟨v', h1, h2⟩
theorem all_rev (zs : List Int) : (came zs.length 0).map (fun x => rd zs (x.val : Int)) = zs.reverse := by
  rw [came_all]
  apply List.ext_getElem
  · simp
  · intro i h1 h2
    simp at h1 h2
    simp [rd]

set_option maxRecDepth 100000 in
set_option maxHeartbeats 4000000 in
theorem main {inv : World → Prop} (A0 : Option Addr) (c0 : Nat) (l0 cc : List Int) (r : List UInt8) (w : World) (fz0 : Nat → Prop) (hfz : ∀ b, fz0 b → b < w.heap.size) (hinv : ∀ W, Below w.heap.size w W → inv W) (hr0 : Nums w.heap fz0 .u32 A0 l0) (hc0 : l0.length ≤ c0) (hlen : cc.length * 4 ≤ 140737488355328)
    (hcc : cc = l0)
    (hTr : ∀ W, inv W → Calls Tryd.prog 92 #[.string (strOfNums (be4Div cc.reverse))] W (RetT [.str] W (fun _ => False) r)) :
    Calls Tryd.prog 110 #[.slice A0 l0.length c0] w fun e w' => e = .returned (.string ⟨r.toArray⟩) ∧ Below w.heap.size w w' := by
  have hi5 : (Tryd.prog.info? 5).map (fun i => (i.zero, i.size, i.bytes)) = some (some (.int .u8 0), 1, 1) := by kernel_rfl
  obtain ⟨i0, hi, hz0, hz1, hz2⟩ := info_parts hi5
  clear hi5
  refine (callsIn_wide (n := 3)).1 ?_
  refine callsIn_of_wp_marks Tryd.func110 rfl trivial ?_ rfl
  simp only [Tryd.ntmps110, List.size_toArray, List.length_cons, List.length_nil, Nat.reduceAdd, Nat.reduceSub, Array.replicate_succ, Array.replicate_zero, List.push_toArray, List.append_toArray, List.nil_append, List.cons_append]
  have bB := Boxed.new w 66 (.slice none 0 0)
  have hB1 : Below w.heap.size w (w.alloc (.cells #[.slice none 0 0] 66)) := (Below.refl _ w).alloc (Nat.le_refl _) _
  subst hcc
  have bB1 := bB
  have hBw1 := hB1
  gi_wp2_with (first | (refine ⟨trivial, ?_⟩; gi_at_call 126; refine (backward_in Fence.wide (3 - 1) trivial rfl _ _ _ _).mono ?_; rintro e w' ⟨rfl, rfl⟩))
  have bS := Boxed.new (w.alloc (.cells #[.slice none 0 0] 66)) 130 (.slice A0 cc.length c0)
  have bB' := bB1.alloc (.cells #[.slice A0 cc.length c0] 130)
  have hBW : Below w.heap.size w ((w.alloc (.cells #[.slice none 0 0] 66)).alloc (.cells #[.slice A0 cc.length c0] 130)) := hBw1.alloc (by have := hBw1.size; omega) _
  have hsz1 : w.heap.size + 1 ≤ (w.alloc (.cells #[.slice none 0 0] 66)).heap.size := by simp
  obtain ⟨W0, hW0⟩ : ∃ W0, (w.alloc (.cells #[.slice none 0 0] 66)).alloc (.cells #[.slice A0 cc.length c0] 130) = W0 := ⟨_, rfl⟩
  have hold : ∀ k, k < (w.alloc (.cells #[.slice none 0 0] 66)).heap.size → W0.heap[k]? = (w.alloc (.cells #[.slice none 0 0] 66)).heap[k]? := fun k hk => by rw [← hW0]; exact Below.heap_alloc _ _ k hk
  have hsz : W0.heap.size = (w.alloc (.cells #[.slice none 0 0] 66)).heap.size + 1 := by rw [← hW0]; simp
  rw [hW0] at bB' bS hBW ⊢
  clear hW0
  simp only [World.size_alloc] at bS hsz hsz1 hold
  obtain ⟨SS, hSSd⟩ : ∃ SS : Nat → Prop, SS = fz0 := ⟨_, rfl⟩
  have hN : Nums (w.alloc (.cells #[.slice none 0 0] 66)).heap SS .u32 A0 cc := by rw [hSSd]; exact K.Nums.mono hr0 fun b hb => ⟨hb, hB1.block b (hfz b hb)⟩
  have hSS : ∀ b, SS b → b < w.heap.size + 1 ∧ b ≠ w.heap.size := by
    rw [hSSd]
    intro b hb
    have := hfz b hb; exact ⟨by omega, by omega⟩
  clear hSSd
  obtain ⟨keep, hkeep⟩ : ∃ keep : Nat → Prop, keep = fun k => k < W0.heap.size ∧ k ≠ w.heap.size := ⟨_, rfl⟩
  have hkb : ∀ k, keep k → k < W0.heap.size := by rw [hkeep]; exact fun k hk => hk.1
  have hRd : BwDiv.Reads keep W0 (w.heap.size + 1) A0 c0 cc := by
    intro W hW
    refine ⟨Boxed.cell ((hW _ (by rw [hkeep]; exact ⟨by omega, by omega⟩)).trans bS), ?_⟩
    refine K.Nums.reads (S := SS) (K.Nums.mono hN fun b hb => ⟨hb, ?_⟩) (by omega)
    obtain ⟨q1, q2⟩ := hSS b hb
    rw [hW b (by rw [hkeep]; exact ⟨by omega, q2⟩)]
    exact hold b q1
  have hkk : ∀ k, keep k → k < W0.heap.size ∧ k ≠ w.heap.size := by rw [hkeep]; exact fun _ h => h
  clear hkeep
  refine wpIn_rangeFunc_ownG (F := Fence.wide) (n := 3) rfl (by omega) (gf := 141) (lb := #[.pointer (some ⟨(w.heap.size + 1), 0, none⟩)]) rfl trivial (enters_of Tryd.func141 (by kernel_rfl) rfl)
    (BwDiv.stops Fence.wide (3 - 1) trivial rfl (by omega) (w.heap.size + 1) c0 A0 cc (by omega) keep W0 hkb hRd) BwDiv.Keeps.trans (BwDiv.Keeps.b hkb) (Below.refl _ _) (fun _ => rfl)
    (fun pre W => (Row W W0.heap.size w.heap.size cc pre ∧ W0.heap.size ≤ W.heap.size) ∧ Below w.heap.size w W)
    (fun _ _ _ => False)
    (OwnFrom.and (fun s A B row hs hg hr => ⟨(Row.own W0.heap.size w.heap.size cc) s A B row hs.1 hg (fun r e => (hr r e).2), Nat.le_trans hs.2 hg.size⟩) (ownFrom_below (Nat.le_refl _) (by omega)))
    (fun _ _ _ _ _ hs _ _ => hs)
    ⟨⟨⟨_, bB', World.ownsRow_nil _ _ _ _⟩, Nat.le_refl _⟩, hBW⟩
    ?a1 ?assign ?body ?done ?stop
  case assign =>
    intro l x W K hK
    gi_wp2
    exact hK
  case body =>
    rintro l pre x W ⟨⟨⟨v, hv, hown⟩, hWsz⟩, hB⟩ hlt
    have hc := hv.cell
    gi_wp2_with (gi_at_builtin; refine wpListIn_append_own _ rfl _ _ 66 rfl W0.heap.size 5 i0 (.int .u8 0) 1 1 Tryd.underlying66 hi hz0 hz1 hz2 rfl (by decide) _ _ _ rfl (hown.alloc _) ⟨W.heap.size, 0, none⟩ 4 4 _ rfl rfl (cells_new _ _ _) (by simp [Value.oneCell']) (by unfold maxLen; omega) (by omega) (by simp; omega) ?_; intro v' w1 hown' hgrow _; obtain ⟨g', cap', rfl⟩ := ownsRow_succ hown'; obtain ⟨hv1, hv2, hr2, hk2, hb2, hkeep2, hsz2⟩ := appendedK hv (by decide) hown hWsz (Nat.le_refl _) (by omega) hown' hgrow; have hc1 := hv1.cell; have hf1 := hv1.frozen)
    refine ⟨hk2.from _, fun k hk => hkeep2 k (hkk k hk).1 (hkk k hk).2, ⟨⟨_, hv2, ?_⟩, Nat.le_trans hWsz hsz2⟩, hB.trans hb2⟩
    rw [List.map_append, List.map_cons, List.map_nil, be4_snoc, nums_append]
    simpa [nums, Nat.mul_add] using hr2
  case done =>
    rintro D ys W hD rfl ⟨⟨⟨v, hv, hown⟩, hWsz⟩, hB⟩ hK
    have hc := hv.cell
    rw [all_rev, came_length] at hown
    have hcv := own_string (P := Tryd.prog) Tryd.underlying66 Tryd.underlying5 Tryd.underlying9 hown
    obtain ⟨s, hs⟩ : ∃ s, s = strOfNums (be4Div cc.reverse) := ⟨_, rfl⟩
    rw [← hs] at hcv hTr
    clear hs hown
    have HT := Lib.hid hTr
    clear hTr
    gi_wp2_with (refine ⟨trivial, ?_⟩; gi_at_call 92; refine (callsIn_wide.2 (HT.out _ (hinv _ hB))).mono ?_; intro e w2 hret; obtain ⟨rfl, hb2⟩ := ret_str hret)
    have hK2 : w2.heap[D]? = some (.deferred (some [])) := (hb2.block D (Array.getElem?_eq_some_iff.1 hK).1).trans hK
    refine ⟨by simp, .inl ⟨_, _, rfl, run_takeDeferred hK2, ?_⟩⟩
    exact ⟨_, results_tmp rfl _ _ _, rfl, (hB.trans (hb2.mono hB.size)).trans (belowK_b (w := w) (Nat.le_refl _) w2 D _ _ (by have := hBW.size; omega) hK2 rfl rfl)⟩
  case stop =>
    rintro D c pre W _ _ h _
    exact h.elim
end HtextDiv
def textDivF (l : List Int) : Option (List UInt8) := cond (decide (l.length * 4 ≤ 140737488355328)) (some (Lib.trimLeftB (bytesOf (be4Div l.reverse)) 0)) none
theorem textDiv_ok {inv : World → Prop} (hk : ∀ w w', inv w → Below w.heap.size w w' → inv w') (hTrim : CallT Tryd.prog 92 [.str] [.str] inv trimF) :
    CallT Tryd.prog 110 [.sl (.int .u32)] [.str] inv textDivF := by
  intro y r h w fz0 vs hfz hinv hd
  obtain ⟨hc, rfl⟩ := cond_some h
  simp only [decide_eq_true_eq] at hc
  obtain ⟨A0, c0, rfl, hc0, hn⟩ := unSl hd
  refine (HtextDiv.main (inv := inv) A0 c0 y y (Lib.trimLeftB (bytesOf (be4Div y.reverse)) 0) w fz0 hfz (fun W hb => hk w W hinv hb) hn hc0 hc rfl ?_).mono fun e w' ⟨he, hb⟩ => ?_
  · intro W hi
    rw [str_bytes]
    exact hTrim (bytesOf (be4Div y.reverse)) _ rfl W (fun _ => False) [.string ⟨(bytesOf (be4Div y.reverse)).toArray⟩] (fun _ h => h.elim) hi (denStr _)
  · subst he
    exact retT_plain (ts := [.str]) [_] hb rfl (denStr _)
end Go.Proofs.YtenebjaipfcflaaDoor.H

/- (abacist/divide.limbs).short: digits divided by one digit, the highest first: the contract, by hand (a range over slices.Backward that stores). -/
namespace Go.Proofs.YtenebjaipfcflaaDoor.H
open Go Go.RowKit Go.Shelf Go.Proofs.YtenebjaipfcflaaDoor.BwDiv
open Go.Proofs.YtenebjaipfcflaaDoor.K (Ty den rd nums nums_append add_plain ReadsInt own_base own_string Nums unSl unInt unCons slDen ret_str ret_int ret_sl str_bytes RetT CallT retT_plain denInt denStr cond_some bytesOf)
attribute [local go_sem] Oper.semAt_some
set_option linter.unusedVariables false
set_option linter.unusedSimpArgs false

/-- One digit more: the rest, and the quotient's digits. -/
def shortX (rest n : Int) : Int := Go.bits .or .u64 (IntKind.u64.wrap (rest * 4294967296)) (IntKind.u64.wrap n)
def shortStep (l : List Int) (by_ : Int) (st : Int × List Int) (i : Nat) : Int × List Int :=
  ((shortX st.1 (rd l (i : Int))).tmod by_, st.2.set i (IntKind.u64.wrap ((shortX st.1 (rd l (i : Int))).tdiv by_) % 4294967296))
def shortSt (l : List Int) (by_ : Int) (is : List Nat) : Int × List Int := is.foldl (shortStep l by_) (0, List.replicate l.length 0)
theorem shortSt_snoc (l : List Int) (by_ : Int) (is : List Nat) (i : Nat) : shortSt l by_ (is ++ [i]) = shortStep l by_ (shortSt l by_ is) i := by simp [shortSt]
theorem shortSt_length (l : List Int) (by_ : Int) (is : List Nat) : (shortSt l by_ is).2.length = l.length := by
  unfold shortSt
  suffices H : ∀ (is : List Nat) (st : Int × List Int), st.2.length = l.length → (is.foldl (shortStep l by_) st).2.length = l.length from H is _ (by simp)
  intro is
  induction is with
  | nil => intro st h; exact h
  | cons i is ih => intro st h; exact ih _ (by simp [shortStep, h])
def shortEnd (l : List Int) (by_ : Int) : Int × List Int := shortSt l by_ (List.range l.length).reverse
def shortF (y : List Int × Int) : Option (List Int × List Int) :=
  cond (decide (0 < y.2) && (decide (y.2 < 4294967296) && decide (y.1.length ≤ 1099511627776))) (some ((shortEnd y.1 y.2).2, [(shortEnd y.1 y.2).1 % 4294967296])) none

/-- Operations that defer nothing go in a round as they go anywhere. -/
def plainOps (ops : Array Oper) : Bool := ops.toList.all fun o => match o.op with
  | .defer _ => false
  | _ => true
theorem wpOp_round {F : Fence} {n r : Nat} {P : Program} {ops : Array Oper} {Q : Exit → Act → World → Prop} (hro : F.round = none) (hp : plainOps ops = true) {i : Nat} {K K' : Act → World → Prop} {a : Act} {w : World} (hK : ∀ a w, K a w → K' a w)
    (h : wpOpIn F n P ops Q i K a w) : wpOpIn (F.inRound r) n P ops Q i K' a w := by
  unfold wpOpIn at h ⊢
  cases ho : ops[i]? with
  | none =>
    simp only [ho] at h ⊢
    exact hK _ _ h
  | some o =>
    simp only [ho] at h ⊢
    split
    · rename_i hw
      simp only [hw, if_true] at h
      have hd : ∀ c, o.op ≠ .defer c := by
        intro c hc
        have hm : o ∈ ops.toList := by simpa using Array.mem_of_getElem? ho
        have := List.all_eq_true.1 hp o hm
        rw [hc] at this
        cases this
      refine ⟨h.1, ?_⟩
      have h2 := h.2
      rw [Oper.semAt_plain F _ _ hd] at h2
      rw [Oper.semAt_plain (F.inRound r) _ _ hd]
      generalize (execOp a.eval o).run P w = res at h2
      cases res with
      | ok x w' =>
        cases x <;> simp only [Oper.uponIn] at h2 ⊢ <;>
          first
            | exact hK _ _ h2
            | exact ⟨h2.1, CallsIn.inRound r (CallsIn.mono h2.2 (fun e w'' he => by cases e <;> first | exact hK _ _ he | exact he))⟩
            | exact ⟨h2.1, RowsIn.mono h2.2 (fun _ _ he => hK _ _ he)⟩
            | exact ⟨h2.1, RoundIn.mono h2.2 (fun e w'' he => by cases e <;> first | exact hK _ _ he | exact he)⟩
      | halt x w' => cases x <;> simp only [Oper.uponIn] at h2 ⊢ <;> exact h2
    · rename_i hw
      simp only [hw] at h
      exact ⟨h.1, hK _ _ h.2⟩
theorem wpAny_round {F : Fence} {n r : Nat} {P : Program} {ops : Array Oper} {Q : Exit → Act → World → Prop} {md : Region.Mode} (hro : F.round = none) (hp : plainOps ops = true) :
    ∀ (fuel : Nat) (listed : Array Bool) (a : Act) (w : World), wpAnyIn F n P md ops Q fuel listed a w → wpAnyIn (F.inRound r) n P md ops Q fuel listed a w
  | 0, _, _, _, h => h
  | fuel + 1, listed, a, w, h => ⟨h.1, fun i hi => wpOp_round hro hp (fun a w h => wpAny_round hro hp fuel _ a w h) (h.2 i hi)⟩

namespace Hshort
/-- A row that lies in its block. -/
def Arr (W : World) (B : Nat) (t : TypeId) (xs : List Int) : Prop := W.heap[B]? = some (.cells (nums .u32 xs).toArray t)
theorem Arr.lt {W : World} {B : Nat} {t : TypeId} {xs : List Int} (h : Arr W B t xs) : B < W.heap.size := (Array.getElem?_eq_some_iff.1 h).1
theorem Arr.cell {W : World} {B : Nat} {t : TypeId} {xs : List Int} (h : Arr W B t xs) (i : Nat) (hi : i < xs.length) : W.cell? ⟨B, i, none⟩ = some (.int .u32 (xs.getD i 0)) := by
  simp [World.cell?, show W.heap[B]? = _ from h, nums, hi]
theorem Arr.frozen {W : World} {B : Nat} {t : TypeId} {xs : List Int} (h : Arr W B t xs) (i : Nat) : W.frozen? ⟨B, i, none⟩ = false := by simp [World.frozen?, show W.heap[B]? = _ from h]
theorem Arr.kept {W W' : World} {row : Option Nat} {B : Nat} {t : TypeId} {xs : List Int} (h : Arr W B t xs) (hg : W.grownBy W' row) (hne : some B ≠ row) : Arr W' B t xs := (hg.block B h.lt hne).trans h
theorem Arr.set {W : World} {B : Nat} {t : TypeId} {xs : List Int} (h : Arr W B t xs) (i : Nat) (v : Int) : Arr (W.setCell ⟨B, i, none⟩ (.int .u32 v)) B t (xs.set i v) := by
  obtain ⟨hlt, hk⟩ := Array.getElem?_eq_some_iff.1 h
  show (W.heap.modify B _)[B]? = _
  rw [Array.getElem?_eq_getElem (by rw [Array.size_modify]; exact hlt), Array.getElem_modify_self, hk]
  simp [nums, List.map_set]
theorem grown_set (W : World) (b i : Nat) (v : Value) : W.grownBy (W.setCell ⟨b, i, none⟩ v) (some b) :=
  ⟨rfl, rfl, rfl, (KeepsWalks.setCell W _ v).size, fun k _ hk => Below.heap_setCell _ _ _ k (fun e => hk (by rw [e]))⟩
theorem arr_own {β : Type} (B : Nat) (t : TypeId) (f : β → List Int) : Own (fun s W => Arr W B t (f s)) := by
  intro s X Y row h hg hrow
  refine h.kept hg (fun e => ?_)
  obtain ⟨o, ho, hc⟩ := hrow B e.symm
  rw [show X.heap[B]? = _ from h] at ho
  cases ho
  simp [Obj.isCells] at hc
theorem box_own {β : Type} (B : Nat) (t : TypeId) (f : β → Value) : Own (fun s W => Boxed W B t (f s)) := by
  intro s X Y row h hg hrow
  refine Boxed.kept h hg (fun e => ?_)
  obtain ⟨o, ho, hc⟩ := hrow B e.symm
  rw [show X.heap[B]? = _ from h] at ho
  cases ho
  simp [Obj.isCells] at hc

/-- Two stores and a draw: the round's end. -/
def after2 (W : World) (N x : Nat) (v1 : Int) (v3 : Value) : World := ((W.setCell ⟨N + 1, x, none⟩ (.int .u32 v1)).setCell ⟨N + 1 + 1 + 1, 0, none⟩ v3).drew
theorem after2_heap (W : World) (N x : Nat) (v1 : Int) (v3 : Value) (k : Nat) (h1 : k ≠ N + 1) (h3 : k ≠ N + 3) : (after2 W N x v1 v3).heap[k]? = W.heap[k]? :=
  (Below.heap_setCell _ ⟨N + 1 + 1 + 1, 0, none⟩ v3 k h3).trans (Below.heap_setCell W ⟨N + 1, x, none⟩ _ k h1)
theorem after2_arr {W : World} {N : Nat} {t : TypeId} {xs : List Int} (h : Arr W (N + 1) t xs) (x : Nat) (v1 : Int) (v3 : Value) : Arr (after2 W N x v1 v3) (N + 1) t (xs.set x v1) :=
  (Below.heap_setCell _ ⟨N + 1 + 1 + 1, 0, none⟩ v3 (N + 1) (by simp)).trans (Arr.set h x v1)
theorem after2_box {W : World} {N : Nat} {t : TypeId} {v : Value} (h : Boxed W (N + 3) t v) (x : Nat) (v1 : Int) (v3 : Value) : Boxed (after2 W N x v1 v3) (N + 3) t v3 :=
  Boxed.set v3 (Boxed.kept h (grown_set W (N + 1) x _) (by simp; omega))
theorem after2_below {w W : World} {N : Nat} (h : Below N w W) (x : Nat) (v1 : Int) (v3 : Value) : Below N w (after2 W N x v1 v3) := by
  have h2 := (h.setCell (p := ⟨N + 1, x, none⟩) (by simp) (.int .u32 v1)).setCell (p := ⟨N + 1 + 1 + 1, 0, none⟩) (by simp; omega) v3
  exact ⟨h2.os, h2.tape, h2.output, h2.size, h2.block⟩
theorem after2_keeps (W : World) (N x B : Nat) (v1 : Int) (v3 : Value) : KeepsFrom B W (after2 W N x v1 v3) := by
  have h := ((KeepsOthers.setCell W ⟨N + 1, x, none⟩ (.int .u32 v1)).trans (KeepsOthers.setCell _ ⟨N + 1 + 1 + 1, 0, none⟩ v3)).from B
  exact ⟨h.1, h.2⟩

set_option maxRecDepth 100000 in
set_option maxHeartbeats 4000000 in
theorem main (A0 : Option Addr) (c0 : Nat) (l0 : List Int) (by_ : Int) (w : World) (fz0 : Nat → Prop) (hfz : ∀ b, fz0 b → b < w.heap.size) (hr0 : Nums w.heap fz0 .u32 A0 l0) (hc0 : l0.length ≤ c0) (hlen : l0.length ≤ 1099511627776) (hb0 : 0 < by_) (hb1 : by_ < 4294967296) :
    Calls Tryd.prog 108 #[.slice A0 l0.length c0, .int .u32 by_] w fun e w' =>
      ∃ B c B' , e = .returned (.tuple #[.slice (some ⟨B, 0, none⟩) l0.length c, .slice (some ⟨B', 0, none⟩) 1 1]) ∧ l0.length ≤ c ∧ w.heap.size ≤ B ∧ w.heap.size ≤ B' ∧ Arr w' B 118 (shortEnd l0 by_).2 ∧ Arr w' B' 118 [(shortEnd l0 by_).1 % 4294967296] ∧ Below w.heap.size w w' := by
  have hi5 : (Tryd.prog.info? 118).map (fun i => (i.zero, i.size, i.bytes)) = some (some (.int .u32 0), 1, 4) := by kernel_rfl
  obtain ⟨i0, hi, hz0, hz1, hz2⟩ := info_parts hi5
  clear hi5
  obtain ⟨n, hn⟩ : ∃ n, n = l0.length := ⟨_, rfl⟩
  have hmk : (Instr.makeSlice 130 (.int .i64 (n : Int)) (.int .i64 (n : Int))).run Tryd.prog (w.alloc (.cells #[.int .u32 by_] 118)) = .ok (.slice (some ⟨w.heap.size + 1, 0, none⟩) n n) ((w.alloc (.cells #[.int .u32 by_] 118)).alloc (.cells (nums .u32 (List.replicate n 0)).toArray 118)) := by
    have := run_make (P := Tryd.prog) (w.alloc (.cells #[.int .u32 by_] 118)) 130 118 i0 (.int .u32 0) Tryd.underlying130 hi hz0 .i64 .i64 n n (by omega) (Int.le_refl _) (by rw [hz2]; omega) (by omega)
    rw [this, hz1]
    have e : madeCells (Value.int .u32 0).cells (n * 1) = (nums .u32 (List.replicate n 0)).toArray := by
      have h := toList_madeCells_one (.int .u32 0) n
      apply Array.toList_inj.1
      rw [Nat.mul_one]
      refine h.trans ?_
      simp [nums]
    simp only [Int.toNat_natCast, World.size_alloc, e]
  refine (callsIn_wide (n := 3)).1 ?_
  refine callsIn_of_wp_marks Tryd.func108 rfl trivial ?_ rfl
  simp only [Tryd.ntmps108, List.size_toArray, List.length_cons, List.length_nil, Nat.reduceAdd, Nat.reduceSub, Array.replicate_succ, Array.replicate_zero, List.push_toArray, List.append_toArray, List.nil_append, List.cons_append]
  rw [← hn]
  have hn' := Lib.hid hn
  clear hn
  gi_wp2_with (refine ⟨trivial, ?_⟩; gi_at_call 126; refine (backward_in Fence.wide (3 - 1) trivial rfl _ _ _ _).mono ?_; rintro e w' ⟨rfl, rfl⟩)
  have hnn := hn'.out
  subst hnn
  clear hn' hmk
  have b3 := Boxed.new w 118 (.int .u32 by_)
  replace b3 := (((b3.alloc (.cells (nums .u32 (List.replicate l0.length 0)).toArray 118)).alloc (.cells #[.slice (some ⟨w.heap.size + 1, 0, none⟩) l0.length l0.length] 130)).alloc (.cells #[.int .u64 0] 103)).alloc (.cells #[.slice A0 l0.length c0] 130)
  obtain ⟨V1, hV1⟩ : ∃ V1, w.alloc (.cells #[.int .u32 by_] 118) = V1 := ⟨_, rfl⟩
  have hB1 : Below w.heap.size w V1 := by rw [← hV1]; exact (Below.refl _ w).alloc (Nat.le_refl _) _
  have z1 : V1.heap.size = w.heap.size + 1 := by rw [← hV1]; simp
  rw [hV1] at b3 ⊢
  have b1 : Arr (V1.alloc (.cells (nums .u32 (List.replicate l0.length 0)).toArray 118)) (w.heap.size + 1) 118 (List.replicate l0.length 0) := by rw [← z1]; exact World.alloc_heap_new V1 _
  obtain ⟨V2, hV2⟩ : ∃ V2, V1.alloc (.cells (nums .u32 (List.replicate l0.length 0)).toArray 118) = V2 := ⟨_, rfl⟩
  have hB2 : Below w.heap.size w V2 := by rw [← hV2]; exact hB1.alloc (by omega) _
  have z2 : V2.heap.size = w.heap.size + 2 := by rw [← hV2]; simp [z1]
  rw [hV2] at b1 b3 ⊢
  have b6 : Boxed (V2.alloc (.cells #[.slice (some ⟨w.heap.size + 1, 0, none⟩) l0.length l0.length] 130)) (w.heap.size + 2) 130 (.slice (some ⟨w.heap.size + 1, 0, none⟩) l0.length l0.length) := by rw [← z2]; exact Boxed.new V2 _ _
  replace b1 := b1.kept (World.grownBy_alloc V2 (.cells #[.slice (some ⟨w.heap.size + 1, 0, none⟩) l0.length l0.length] 130) none) (by simp)
  obtain ⟨V3, hV3⟩ : ∃ V3, V2.alloc (.cells #[.slice (some ⟨w.heap.size + 1, 0, none⟩) l0.length l0.length] 130) = V3 := ⟨_, rfl⟩
  have hB3 : Below w.heap.size w V3 := by rw [← hV3]; exact hB2.alloc (by omega) _
  have z3 : V3.heap.size = w.heap.size + 3 := by rw [← hV3]; simp [z2]
  rw [hV3] at b1 b3 b6 ⊢
  have b7 : Boxed (V3.alloc (.cells #[.int .u64 0] 103)) (w.heap.size + 3) 103 (.int .u64 0) := by rw [← z3]; exact Boxed.new V3 _ _
  replace b1 := b1.kept (World.grownBy_alloc V3 (.cells #[.int .u64 0] 103) none) (by simp)
  replace b6 := b6.alloc (.cells #[.int .u64 0] 103)
  obtain ⟨V4, hV4⟩ : ∃ V4, V3.alloc (.cells #[.int .u64 0] 103) = V4 := ⟨_, rfl⟩
  have hB4 : Below w.heap.size w V4 := by rw [← hV4]; exact hB3.alloc (by omega) _
  have z4 : V4.heap.size = w.heap.size + 4 := by rw [← hV4]; simp [z3]
  rw [hV4] at b1 b3 b6 b7 ⊢
  have bS : Boxed (V4.alloc (.cells #[.slice A0 l0.length c0] 130)) (w.heap.size + 4) 130 (.slice A0 l0.length c0) := by rw [← z4]; exact Boxed.new V4 _ _
  replace b1 := b1.kept (World.grownBy_alloc V4 (.cells #[.slice A0 l0.length c0] 130) none) (by simp)
  replace b6 := b6.alloc (.cells #[.slice A0 l0.length c0] 130)
  replace b7 := b7.alloc (.cells #[.slice A0 l0.length c0] 130)
  obtain ⟨W0, hW0⟩ : ∃ W0, V4.alloc (.cells #[.slice A0 l0.length c0] 130) = W0 := ⟨_, rfl⟩
  have hB0 : Below w.heap.size w W0 := by rw [← hW0]; exact hB4.alloc (by omega) _
  have hsz : W0.heap.size = w.heap.size + 5 := by rw [← hW0]; simp [z4]
  rw [hW0] at b1 b3 b6 b7 bS ⊢
  clear hV1 hV2 hV3 hV4 hW0 hB1 hB2 hB3 hB4 z1 z2 z3 z4
  obtain ⟨keep, hkeep⟩ : ∃ keep : Nat → Prop, keep = fun k => k < w.heap.size ∨ k = w.heap.size + 4 := ⟨_, rfl⟩
  have hkb : ∀ k, keep k → k < W0.heap.size := by rw [hkeep]; intro k hk; rcases hk with h | h <;> omega
  have hRd : BwDiv.Reads keep W0 (w.heap.size + 4) A0 c0 l0 := by
    intro W hW
    refine ⟨Boxed.cell ((hW _ (by rw [hkeep]; exact .inr rfl)).trans bS), ?_⟩
    refine K.Nums.reads (S := fz0) (K.Nums.mono hr0 fun b hb => ⟨hb, ?_⟩) (by omega)
    rw [hW b (by rw [hkeep]; exact .inl (hfz b hb))]
    exact hB0.block b (hfz b hb)
  have hk1 : ¬ keep (w.heap.size + 1) := by rw [hkeep]; omega
  have hk3 : ¬ keep (w.heap.size + 3) := by rw [hkeep]; omega
  clear hkeep
  refine wpIn_rangeFunc_ownG (F := Fence.wide) (n := 3) rfl (by omega) (gf := 141) (lb := #[.pointer (some ⟨w.heap.size + 4, 0, none⟩)]) rfl trivial (enters_of Tryd.func141 (by kernel_rfl) rfl)
    (BwDiv.stops Fence.wide (3 - 1) trivial rfl (by omega) (w.heap.size + 4) c0 A0 l0 (by omega) keep W0 hkb hRd) BwDiv.Keeps.trans (BwDiv.Keeps.b hkb) (Below.refl _ _) (fun _ => rfl)
    (fun pre W => (Boxed W w.heap.size 118 (.int .u32 by_) ∧ Arr W (w.heap.size + 1) 118 (shortSt l0 by_ (pre.map Fin.val)).2 ∧ Boxed W (w.heap.size + 2) 130 (.slice (some ⟨w.heap.size + 1, 0, none⟩) l0.length l0.length) ∧
      Boxed W (w.heap.size + 3) 103 (.int .u64 (shortSt l0 by_ (pre.map Fin.val)).1)) ∧ Below w.heap.size w W)
    (fun _ _ _ => False)
    (OwnFrom.and (Own.from (fun s A B row hs hg hr => ⟨box_own _ _ (fun _ => _) s A B row hs.1 hg hr, arr_own _ _ (fun s => _) s A B row hs.2.1 hg hr, box_own _ _ (fun _ => _) s A B row hs.2.2.1 hg hr, box_own _ _ (fun _ => _) s A B row hs.2.2.2 hg hr⟩) _) (ownFrom_below (Nat.le_refl _) (by omega)))
    (fun _ _ _ _ _ hs _ _ => hs)
    ⟨⟨b3, b1, b6, b7⟩, hB0⟩
    ?a1 ?assign ?body ?done ?stop
  case assign =>
    intro l x W K hK
    gi_wp2
    exact hK
  case body =>
    rintro l pre ⟨x, hx⟩ W ⟨⟨hb, ha, ho, hr⟩, hB⟩ hlt
    have hcb := hb.cell
    have hco := ho.cell
    have hcr := hr.cell
    have hfr := hr.frozen
    have hca := ha.cell x (by rw [shortSt_length]; exact hx)
    have hfa := ha.frozen x
    have hco' : W.cell? ⟨w.heap.size + 1 + 1, 0, none⟩ = some (.slice (some ⟨w.heap.size + 1, 0, none⟩) l0.length l0.length) := hco
    have hcr' : W.cell? ⟨w.heap.size + 1 + 1 + 1, 0, none⟩ = some (.int .u64 (shortSt l0 by_ (pre.map Fin.val)).1) := hcr
    have hfr' : W.frozen? ⟨w.heap.size + 1 + 1 + 1, 0, none⟩ = false := hfr
    have hbn : ¬ IntKind.u64.wrap by_ = 0 := by simp [IntKind.wrap, IntKind.bits, IntKind.signed]; omega
    dsimp only
    gi_wp2
    refine wpIn_region_any (by kernel_rfl) ?_
    refine wpAny_round rfl (by kernel_rfl) _ _ _ _ ?_
    change wpAnyIn _ _ _ _ _ _ _ _ _ (World.drew _)
    (refine wpAnyIn_take (i := 1) (v := ?_) rfl rfl (by kernel_rfl) (by kernel_rfl) (by kernel_rfl) (fun _ _ _ h => h) ⟨Or.inl ⟨by rfl, ?_⟩, fun _ => rfl⟩ ?_; rotate_left; focus (intro w; go_simp <;> with_reducible rfl))
    (refine wpAnyIn_take (i := 2) (v := ?_) rfl rfl (by kernel_rfl) (by kernel_rfl) (by kernel_rfl) (fun _ _ _ h => h) ⟨Or.inl ⟨by rfl, ?_⟩, fun _ => rfl⟩ ?_; rotate_left; focus (intro w; go_simp <;> with_reducible rfl))
    refine wpAnyIn_ready (rs := [0, 3]) (by kernel_rfl) (by simp) ?_
    refine AllReadyIn.cons rfl (fun K hK => ?_) (AllReadyIn.cons rfl (fun K hK => ?_) AllReadyIn.nil)
    · go_simp
      refine hK _ _ ?_
      clear hK K
      (refine wpAnyIn_ready (rs := [3]) (by kernel_rfl) (by simp) ?_; refine AllReadyIn.cons rfl (fun K hK => ?_) AllReadyIn.nil; go_simp; refine hK _ _ ?_; clear hK K)
      (refine wpAnyIn_take (i := 4) (v := ?_) rfl rfl (by kernel_rfl) (by kernel_rfl) (by kernel_rfl) (fun _ _ _ h => h) ⟨Or.inl ⟨by rfl, ?_⟩, fun _ => rfl⟩ ?_; rotate_left; focus (intro w; go_simp <;> with_reducible rfl))
      (refine wpAnyIn_take (i := 5) (v := ?_) rfl rfl (by kernel_rfl) (by kernel_rfl) (by kernel_rfl) (fun _ _ _ h => h) ⟨Or.inl ⟨by rfl, ?_⟩, fun _ => rfl⟩ ?_; rotate_left; focus (intro w; go_simp <;> with_reducible rfl))
      (refine wpAnyIn_take (i := 6) (v := ?_) rfl rfl (by kernel_rfl) (by kernel_rfl) (by kernel_rfl) (fun _ _ _ h => h) ⟨Or.inl ⟨by rfl, ?_⟩, fun _ => rfl⟩ ?_; rotate_left; focus (intro w; go_simp <;> with_reducible rfl))
      (refine wpAnyIn_ready (rs := [7]) (by kernel_rfl) (by simp) ?_; refine AllReadyIn.cons rfl (fun K hK => ?_) AllReadyIn.nil; go_simp; refine hK _ _ ?_; clear hK K)
      (refine wpAnyIn_ready (rs := [8]) (by kernel_rfl) (by simp) ?_; refine AllReadyIn.cons rfl (fun K hK => ?_) AllReadyIn.nil; go_simp; refine hK _ _ ?_; clear hK K)
      refine wpAnyIn_done (by kernel_rfl) ?_ _
      gi_wp2
      refine ⟨after2_keeps W w.heap.size x _ _ _, fun k hk => after2_heap W w.heap.size x _ _ k (fun e => hk1 (e ▸ hk)) (fun e => hk3 (e ▸ hk)), ?_⟩
      dsimp only
      rw [List.map_append, List.map_cons, List.map_nil, shortSt_snoc]
      exact ⟨⟨(after2_heap W w.heap.size x _ _ _ (by omega) (by omega)).trans hb, after2_arr ha x _ _, (after2_heap W w.heap.size x _ _ _ (by omega) (by omega)).trans ho, after2_box hr x _ _⟩, after2_below hB x _ _⟩
    · go_simp
      refine hK _ _ ?_
      clear hK K
      (refine wpAnyIn_take (i := 4) (v := ?_) rfl rfl (by kernel_rfl) (by kernel_rfl) (by kernel_rfl) (fun _ _ _ h => h) ⟨Or.inl ⟨by rfl, ?_⟩, fun _ => rfl⟩ ?_; rotate_left; focus (intro w; go_simp <;> with_reducible rfl))
      (refine wpAnyIn_take (i := 5) (v := ?_) rfl rfl (by kernel_rfl) (by kernel_rfl) (by kernel_rfl) (fun _ _ _ h => h) ⟨Or.inl ⟨by rfl, ?_⟩, fun _ => rfl⟩ ?_; rotate_left; focus (intro w; go_simp <;> with_reducible rfl))
      (refine wpAnyIn_take (i := 6) (v := ?_) rfl rfl (by kernel_rfl) (by kernel_rfl) (by kernel_rfl) (fun _ _ _ h => h) ⟨Or.inl ⟨by rfl, ?_⟩, fun _ => rfl⟩ ?_; rotate_left; focus (intro w; go_simp <;> with_reducible rfl))
      (refine wpAnyIn_ready (rs := [0]) (by kernel_rfl) (by simp) ?_; refine AllReadyIn.cons rfl (fun K hK => ?_) AllReadyIn.nil; go_simp; refine hK _ _ ?_; clear hK K)
      (refine wpAnyIn_ready (rs := [7]) (by kernel_rfl) (by simp) ?_; refine AllReadyIn.cons rfl (fun K hK => ?_) AllReadyIn.nil; go_simp; refine hK _ _ ?_; clear hK K)
      (refine wpAnyIn_ready (rs := [8]) (by kernel_rfl) (by simp) ?_; refine AllReadyIn.cons rfl (fun K hK => ?_) AllReadyIn.nil; go_simp; refine hK _ _ ?_; clear hK K)
      refine wpAnyIn_done (by kernel_rfl) ?_ _
      gi_wp2
      refine ⟨after2_keeps W w.heap.size x _ _ _, fun k hk => after2_heap W w.heap.size x _ _ k (fun e => hk1 (e ▸ hk)) (fun e => hk3 (e ▸ hk)), ?_⟩
      dsimp only
      rw [List.map_append, List.map_cons, List.map_nil, shortSt_snoc]
      exact ⟨⟨(after2_heap W w.heap.size x _ _ _ (by omega) (by omega)).trans hb, after2_arr ha x _ _, (after2_heap W w.heap.size x _ _ _ (by omega) (by omega)).trans ho, after2_box hr x _ _⟩, after2_below hB x _ _⟩
  case done =>
    rintro D ys W hD rfl ⟨⟨hb, ha, ho, hr⟩, hB⟩ hK
    have hcb := hb.cell
    have hco := ho.cell
    have hcr := hr.cell
    have hco' : W.cell? ⟨w.heap.size + 1 + 1, 0, none⟩ = some (.slice (some ⟨w.heap.size + 1, 0, none⟩) l0.length l0.length) := hco
    have hcr' : W.cell? ⟨w.heap.size + 1 + 1 + 1, 0, none⟩ = some (.int .u64 (shortSt l0 by_ ((came l0.length 0).map Fin.val)).1) := hcr
    have hcoA : ∀ o, (W.alloc o).cell? ⟨w.heap.size + 1 + 1, 0, none⟩ = some (.slice (some ⟨w.heap.size + 1, 0, none⟩) l0.length l0.length) := fun o => (ho.alloc o).cell
    gi_wp2
    gi_region
    all_goals gi_wp2
    have hDW : D < W.heap.size := (Array.getElem?_eq_some_iff.1 hK).1
    have hrev : (came l0.length 0).map Fin.val = (List.range l0.length).reverse := by
      rw [came_all, List.map_reverse]
      congr 1
      apply List.ext_getElem
      · simp
      · intro i h1 h2; simp
    have hend : shortSt l0 by_ ((came l0.length 0).map Fin.val) = shortEnd l0 by_ := by rw [hrev]; rfl
    have hK2 : ∀ o, ((W.alloc o).drew).heap[D]? = some (.deferred (some [])) := fun o => (Below.heap_alloc W o D hDW).trans hK
    have hBa : ∀ o, Below w.heap.size w (W.alloc o).drew := fun o => by
      have h2 := hB.alloc (by have := hB.size; omega) o
      exact ⟨h2.os, h2.tape, h2.output, h2.size, h2.block⟩
    have hWs := hB.size
    refine ⟨by simp, .inl ⟨_, _, rfl, run_takeDeferred (hK2 _), ?_⟩⟩
    refine ⟨_, results_tmp2 rfl _ _ _, w.heap.size + 1, l0.length, W.heap.size, rfl, Nat.le_refl _, by omega, hWs, ?_, ?_, ?_⟩
    · have h1 : Arr (W.alloc (.cells #[.int .u32 ((shortSt l0 by_ ((came l0.length 0).map Fin.val)).1 % 4294967296)] 118)) (w.heap.size + 1) 118 (shortSt l0 by_ ((came l0.length 0).map Fin.val)).2 := ha.kept (World.grownBy_alloc W _ none) (by simp)
      rw [← hend]
      exact (World.putObj_heap_other (by omega)).trans h1
    · have h1 : (W.alloc (.cells #[.int .u32 ((shortSt l0 by_ ((came l0.length 0).map Fin.val)).1 % 4294967296)] 118)).heap[W.heap.size]? = some (.cells #[.int .u32 ((shortSt l0 by_ ((came l0.length 0).map Fin.val)).1 % 4294967296)] 118) := World.alloc_heap_new W _
      rw [← hend]
      exact (World.putObj_heap_other (by omega)).trans h1
    · exact (hBa _).trans (belowK_b (w := w) (Nat.le_refl _) _ D _ _ (by omega) (hK2 _) rfl rfl)
  case stop =>
    rintro D c pre W _ _ h _
    exact h.elim
theorem arr_nums {w : World} {S : Nat → Prop} {B : Nat} {t : TypeId} {l : List Int} (h : Arr w B t l) (hB : S B) : Nums w.heap S .u32 (some ⟨B, 0, none⟩) l := fun _ =>
  ⟨B, 0, (nums .u32 l).toArray, t, (0, 0), rfl, hB, h, fun i hi => by
    show K.row _ _ _ = [_]
    simp [K.row, K.csz, nums, List.take_one, hi]⟩
end Hshort
theorem short_ok {inv : World → Prop} : CallT Tryd.prog 108 [.sl (.int .u32), .int .u32] [.sl (.int .u32), .sl (.int .u32)] inv shortF := by
  intro y r h w fz0 vs hfz hinv hd
  obtain ⟨l0, by_⟩ := y
  obtain ⟨hc, rfl⟩ := cond_some h
  simp only [Bool.and_eq_true, decide_eq_true_eq] at hc
  obtain ⟨h0, h1, h2⟩ := hc
  obtain ⟨v, us, rfl, d1, d2⟩ := unCons hd
  obtain ⟨A0, c0, e0, hc0, hn⟩ := unSl d1
  have e2 := unInt d2
  cases e0
  subst e2
  refine (Hshort.main A0 c0 l0 by_ w fz0 hfz hn hc0 h2 h0 h1).mono fun e w' ⟨B, c, B', he, hcl, hB, hB', a1, a2, hb⟩ => ?_
  subst he
  have hl : (shortEnd l0 by_).2.length = l0.length := shortSt_length _ _ _
  have D1 := slDen (ok := fun b => w.heap.size ≤ b ∧ b < w'.heap.size) (c := c) (by rw [hl]; exact hcl) (Hshort.arr_nums a1 ⟨hB, Hshort.Arr.lt a1⟩)
  have D2 := slDen (ok := fun b => w.heap.size ≤ b ∧ b < w'.heap.size) (l := [(shortEnd l0 by_).1 % 4294967296]) (c := 1) (Nat.le_refl 1) (Hshort.arr_nums a2 ⟨hB', Hshort.Arr.lt a2⟩)
  rw [hl] at D1
  exact K.retT_ok (ts := [.sl (.int .u32), .sl (.int .u32)]) [_, _] (fun b hb => .inr hb) hb rfl (K.denCons D1 D2)
end Go.Proofs.YtenebjaipfcflaaDoor.H

/- The machine at this seat: tables, names. -/
set_option linter.unusedVariables false
set_option maxRecDepth 100000
namespace Go.Proofs.YtenebjaipfcflaaDoor.C
open Go Go.Proofs.YtenebjaipfcflaaDoor.K
def look {α : Type} : List (Nat × α) → Nat → Option α
  | [], _ => none
  | (u, v) :: l, t => match Nat.beq u t with
    | true => some v
    | false => look l t
def peq : Path → Path → Bool
  | [], [] => true
  | a :: p, b :: q => Nat.beq a b && peq p q
  | _, _ => false
def lookP : List (Nat × Path × Ann) → Nat → Path → Option Ann
  | [], _, _ => none
  | (g, u, v) :: l, f, t => match Nat.beq g f && peq u t with
    | true => some v
    | false => lookP l f t
def Inv (w : World) : Prop := MaxLen w
theorem inv_max : ∀ w, Inv w → MaxLen w := fun _ h => h
theorem inv_keeps : ∀ w w', Inv w → RowKit.Below w.heap.size w w' → Inv w' := maxLen_keeps
noncomputable def ti3 : TI := { sh := (.int .i64), size := 1, bytes := 8, zero := [(.int .i64 0)], ty := some (.int .i64), fl := [], eq := false }
noncomputable def ti5 : TI := { sh := (.int .u8), size := 1, bytes := 1, zero := [(.int .u8 0)], ty := some (.int .u8), fl := [], eq := false }
noncomputable def ti9 : TI := { sh := .str, size := 1, bytes := 16, zero := [(.str [])], ty := some .str, fl := [], eq := false }
noncomputable def ti66 : TI := { sh := (.sl 5), size := 1, bytes := 24, zero := [.nilsl], ty := some (.sl (.int .u8)), fl := [], eq := false }
noncomputable def ti91 : TI := { sh := (.st [(0, 3), (1, 33), (4, 9), (5, 4), (6, 3)]), size := 7, bytes := 80, zero := [(.int .i64 0), (.bool false), (.str []), (.str []), (.str []), (.bool false), (.int .i64 0)], ty := some (.pair (.int .i64) (.pair (.pair .bool (.pair .str .str)) (.pair .str (.pair .bool (.int .i64))))), fl := [(0, 1, false), (1, 3, true), (4, 1, false), (5, 1, false), (6, 1, false)], eq := false }
noncomputable def ti103 : TI := { sh := (.int .u64), size := 1, bytes := 8, zero := [(.int .u64 0)], ty := some (.int .u64), fl := [], eq := false }
noncomputable def ti105 : TI := { sh := (.arr 8 9), size := 8, bytes := 128, zero := [(.str []), (.str []), (.str []), (.str []), (.str []), (.str []), (.str []), (.str [])], ty := none, fl := [], eq := false }
noncomputable def ti109 : TI := { sh := (.int .u64), size := 1, bytes := 8, zero := [(.int .u64 0)], ty := some (.int .u64), fl := [], eq := false }
noncomputable def ti118 : TI := { sh := (.int .u32), size := 1, bytes := 4, zero := [(.int .u32 0)], ty := some (.int .u32), fl := [], eq := false }
noncomputable def ti127 : TI := { sh := (.sl 118), size := 1, bytes := 24, zero := [.nilsl], ty := some (.sl (.int .u32)), fl := [], eq := false }
noncomputable def ti130 : TI := { sh := (.sl 118), size := 1, bytes := 24, zero := [.nilsl], ty := some (.sl (.int .u32)), fl := [], eq := false }
noncomputable def tis : List (Nat × TI) := [(3, ti3), (5, ti5), (9, ti9), (66, ti66), (91, ti91), (103, ti103), (105, ti105), (109, ti109), (118, ti118), (127, ti127), (130, ti130)]
noncomputable def fns : List (Nat × Func) := [(65, Tryd.f65), (66, Tryd.f66), (78, Tryd.f78), (79, Tryd.f79), (89, Tryd.f89), (90, Tryd.f90), (91, Tryd.f91), (92, Tryd.f92), (93, Tryd.f93), (94, Tryd.f94), (95, Tryd.f95), (102, Tryd.f102), (103, Tryd.f103), (104, Tryd.f104), (105, Tryd.f105), (106, Tryd.f106), (107, Tryd.f107), (108, Tryd.f108), (109, Tryd.f109), (110, Tryd.f110), (112, Tryd.f112), (118, Tryd.f118), (124, Tryd.f124), (125, Tryd.f125), (127, Tryd.f127), (128, Tryd.f128), (129, Tryd.f129), (132, Tryd.f132), (80, Tryd.f80), (111, Tryd.f111), (130, Tryd.f130), (131, Tryd.f131)]
def inls : List Nat := [80, 111, 130, 131]
noncomputable def ptsL : List (Nat × List Ty) := [(65, [.str]), (66, [(.int .i64)]), (78, [.str]), (79, [(.int .i64)]), (89, [.str, .str]), (90, [.str, .str]), (91, [(.int .u64)]), (92, [.str]), (93, [.str, .str]), (94, [.str, .str]), (95, [.str, (.int .i64)]), (102, [.str]), (103, [(.sl (.int .u32)), (.int .i64)]), (104, [(.sl (.int .u32))]), (105, [.str, .str]), (106, [.str]), (107, [.str, .str]), (108, [(.sl (.int .u32)), (.int .u32)]), (109, [(.sl (.int .u32)), (.sl (.int .u32))]), (110, [(.sl (.int .u32))]), (112, [(.int .u64)]), (118, [(.sl (.int .u32))]), (124, [.str]), (125, [(.sl (.int .u32)), (.sl (.int .u32))]), (127, [(.int .u32)]), (128, [(.sl (.int .u32)), (.int .i64)]), (129, [(.int .u64), (.int .u64), (.int .u64), (.int .u64), (.int .u64)]), (132, [(.sl (.int .u32)), (.int .i64)])]
noncomputable def rtsL : List (Nat × List Ty) := [(65, [(.pair (.int .i64) (.pair (.pair .bool (.pair .str .str)) (.pair .str (.pair .bool (.int .i64)))))]), (66, [.str]), (78, [.bool]), (79, [(.pair (.int .i64) (.pair (.pair .bool (.pair .str .str)) (.pair .str (.pair .bool (.int .i64)))))]), (89, [.str]), (90, [.str]), (91, [.str]), (92, [.str]), (93, [.str]), (94, [.str, .str, (.int .i64)]), (95, [.str, (.int .i64)]), (102, [(.sl (.int .u32))]), (103, [(.int .u64)]), (104, [.str]), (105, [.str]), (106, [(.sl (.int .u32))]), (107, [(.int .i64)]), (108, [(.sl (.int .u32)), (.sl (.int .u32))]), (109, [(.sl (.int .u32)), (.sl (.int .u32))]), (110, [.str]), (112, [(.int .i64)]), (118, [(.sl (.int .u32))]), (124, [(.int .u64), .bool]), (125, [(.int .i64)]), (127, [(.int .i64)]), (128, [(.own (.int .u32))]), (129, [(.int .u64)]), (132, [(.sl (.int .u32))])]
noncomputable def annL : List (Nat × List (Nat × Path × Ann)) := [
  (66, [(66, [1000000, 0, 1], { live := [(0, .keep)], toks := [] }),
    (66, [1, 0, 1, 1], { live := [(0, .keep), (3, .keep), (10, .keep)], toks := [(48, [.keep, .keep, .keep, .keep, .keep, .keep, .keep, .keep])] })]),
  (78, [(78, [0, 1, 0, 1], { live := [(0, .keep), (6, .im (.sl (.int .u8))), (7, .keep), (8, .keep)], toks := [] }),
    (78, [1, 1, 0, 0, 1, 1, 0, 0, 1, 0, 1], { live := [(0, .keep), (6, .im (.sl (.int .u8))), (7, .keep), (8, .keep), (17, .keep)], toks := [] })]),
  (79, [(79, [1, 1], { live := [(0, .keep), (2, .keep)], toks := [(32, [.keep, .keep, .keep, .keep, .keep, .keep, .keep])] })]),
  (89, [(89, [0, 1, 0, 1, 1, 1, 1], { live := [(5, .im (.sl (.int .u32))), (6, .im (.sl (.int .u32))), (7, .own 1099511627776 (.int .u32)), (8, .keep), (19, .keep), (20, .keep)], toks := [] })]),
  (90, [(90, [0, 1, 0, 1, 1, 1], { live := [(5, .im (.sl (.int .u32))), (6, .im (.sl (.int .u32))), (7, .own 1099511627777 (.int .u32)), (23, .keep), (24, .keep)], toks := [] }),
    (90, [0, 1, 0, 1, 1, 0, 0, 1, 1, 0, 0, 1, 0, 1, 1, 1], { live := [(5, .im (.sl (.int .u32))), (6, .im (.sl (.int .u32))), (7, .own 1099511627778 (.int .u32)), (8, .keep), (9, .keep), (23, .keep), (24, .keep), (28, .keep), (29, .keep)], toks := [] })]),
  (93, [(93, [0, 0, 1, 1], { live := [(0, .keep), (1, .keep)], toks := [] })]),
  (94, [(94, [1, 1, 1], { live := [(7, .im (.sl (.int .u32))), (8, .im (.sl (.int .u32)))], toks := [] })]),
  (95, [(95, [1, 1, 1, 1, 1, 0, 1, 0, 1], { live := [(0, .keep), (1, .keep), (18, .keep)], toks := [] }),
    (95, [0, 1, 0, 1, 1, 1, 1], { live := [(0, .keep), (1, .keep), (6, .keep), (7, .keep), (8, .keep)], toks := [(96, [.keep])] }),
    (95, [1000002, 0, 0, 0, 1, 0, 0, 1, 0, 1, 1, 1, 1], { live := [(0, .keep), (1, .keep), (6, .keep), (7, .keep), (8, .keep)], toks := [] }),
    (95, [1000013, 0, 0, 0, 1, 0, 0, 1, 0, 1, 1, 1, 1], { live := [(0, .keep), (1, .keep), (6, .keep), (7, .keep), (8, .keep), (44, .keep), (50, .keep)], toks := [] }),
    (95, [1, 0, 0, 1, 0, 0, 1, 0, 1, 1, 1, 1], { live := [(0, .keep), (1, .keep), (6, .keep), (7, .keep), (8, .keep), (56, .keep)], toks := [(96, [.keep])] })]),
  (102, [(102, [0, 0, 1, 1], { live := [(0, .keep), (3, .own 1099511627779 (.int .u32))], toks := [] }),
    (102, [0, 1, 0, 1, 1, 0, 1, 0, 0, 0, 1, 1], { live := [(0, .keep), (3, .own 1099511627780 (.int .u32)), (4, .keep), (5, .keep), (18, .im (.sl (.int .u8))), (19, .keep), (20, .keep)], toks := [] })]),
  (106, [(106, [0, 1, 0, 1, 1], { live := [(0, .keep), (3, .own 1099511627781 (.int .u32))], toks := [] })]),
  (109, [(109, [0, 1, 0, 1, 1, 1, 1, 1, 1], { live := [(1, .im (.sl (.int .u32))), (6, .keep), (7, .own 1099511627782 (.int .u32)), (8, .keep), (9, .own 1099511627783 (.int .u32)), (10, .keep)], toks := [] }),
    (109, [1000004, 0, 0, 1, 0, 0, 1, 0, 0, 1, 0, 1, 1, 1, 1, 1, 1], { live := [(1, .keep), (6, .keep), (7, .keep), (8, .keep), (9, .keep), (10, .keep), (11, .keep)], toks := [] }),
    (130, [0, 1, 0, 1, 1], { live := [(0, .keep), (1, .im (.sl (.int .u32))), (2, .keep), (3, .keep), (9, .keep), (10, .keep), (16, .keep), (17, .keep)], toks := [(1099511627782, []), (1099511627783, [])] }),
    (109, [1000003, 1, 0, 1, 0, 1, 0, 0, 1, 0, 0, 1, 0, 1, 1, 1, 1, 1, 1], { live := [(1, .keep), (6, .keep), (7, .keep), (8, .keep), (9, .keep), (10, .keep), (11, .keep)], toks := [] }),
    (131, [0, 1, 0, 1], { live := [(0, .keep), (1, .im (.sl (.int .u32))), (2, .keep), (6, .keep), (10, .keep), (11, .keep)], toks := [(1099511627782, []), (1099511627783, [])] })]),
  (118, [(118, [0, 0, 1], { live := [(0, .im (.sl (.int .u32)))], toks := [] }),
    (118, [1, 0, 0, 0, 0, 1], { live := [(0, .im (.sl (.int .u32))), (14, .keep)], toks := [] })]),
  (128, [(128, [0, 1, 0, 1, 1, 1], { live := [(0, .im (.sl (.int .u32))), (1, .keep), (5, .own 1099511627784 (.int .u32)), (6, .keep), (14, .im (.sl (.int .u32))), (15, .keep), (16, .keep)], toks := [] })]),
  (129, [(129, [0, 0, 1, 1, 1, 0, 1], { live := [(2, .keep), (3, .keep), (4, .keep), (12, .keep), (13, .keep)], toks := [] }),
    (129, [1, 0, 0, 0, 0, 1, 1, 1, 0, 1], { live := [(2, .keep), (3, .keep), (4, .keep), (12, .keep), (13, .keep), (36, .keep)], toks := [] })]),
  (132, [(132, [0, 1, 0, 1, 1], { live := [(0, .im (.sl (.int .u32))), (1, .keep), (5, .own 1099511627785 (.int .u32)), (12, .keep), (13, .keep)], toks := [] }),
    (132, [1, 1, 1, 0, 0, 1, 1, 0, 0, 1, 0, 1, 1], { live := [(0, .im (.sl (.int .u32))), (1, .keep), (5, .own 1099511627786 (.int .u32)), (6, .keep), (7, .keep), (12, .keep), (13, .keep)], toks := [] })])]
noncomputable def extL : List ((j : Nat) × (den (tyL ((look ptsL j).getD [])) → Option (den (tyL ((look rtsL j).getD []))))) := [⟨104, H.textF⟩, ⟨105, trimLeftF⟩, ⟨108, H.shortF⟩, ⟨110, H.textDivF⟩, ⟨112, len64F⟩, ⟨125, H.cmpF⟩, ⟨127, lz32F⟩]
noncomputable def CT : Ctx where
  ti := look tis
  fn := look fns
  disp := fun _ f _ => match inls.elem f with
    | true => .inl
    | false => .spec f
  fid := fun i => i
  pts := fun i => (look ptsL i).getD []
  rts := fun i => (look rtsL i).getD []
  ext := lookE extL
  ann := fun i f p => match look annL i with
    | some l => lookP l f p
    | none => none
  inv := Inv
noncomputable abbrev value_Text (x0 : List UInt8) : Option (Int × (Bool × List UInt8 × List UInt8) × List UInt8 × Bool × Int) := (top CT).callF 65 (x0)
noncomputable abbrev value_Name (x0 : Int) : Option (List UInt8) := (top CT).callF 66 (x0)
noncomputable abbrev value_Name_1 (a1 : Int) : Option (List UInt8) := (top CT).stage 66 [{ f := 66, path := [0, 1], op := 0, rest := [1, 2], env := [(0, (.int .i64 a1))], salt := 0 }] 80 [] { env := [], heap := [], salt := 5 }
noncomputable abbrev value_Name_2 (a1 : Int) (a2 : Bool) (a3 : List UInt8) (a4 : List UInt8) (a5 : List UInt8) (a6 : List UInt8) (a7 : List UInt8) (a8 : List UInt8) (a9 : List UInt8) (a10 : List UInt8) : Option (List UInt8) := (top CT).stage 66 [] 66 [1, 0, 1, 1] { env := [(0, (.int .i64 a1)), (3, (.ptr 48 0)), (10, (.bool a2))], heap := [(48, .box [(.str a3), (.str a4), (.str a5), (.str a6), (.str a7), (.str a8), (.str a9), (.str a10)])], salt := 0 }
noncomputable abbrev value_plain (x0 : List UInt8) : Option (Bool) := (top CT).callF 78 (x0)
noncomputable abbrev value_plain_1 (a1 : List UInt8) (a2 : List Int) (a3 : Int) (a4 : Int) : Option (Bool) := (top CT).stage 78 [] 78 [0, 1, 0, 1] { env := [(0, (.str a1)), (6, (.sl (.int .u8) a2 false)), (7, (.int .i64 a3)), (8, (.int .i64 a4))], heap := [], salt := 0 }
noncomputable abbrev value_plain_2 (a1 : List UInt8) (a2 : List Int) (a3 : Int) (a4 : Int) (a5 : Bool) : Option (Bool) := (top CT).stage 78 [] 78 [1, 1, 0, 0, 1, 1, 0, 0, 1, 0, 1] { env := [(0, (.str a1)), (6, (.sl (.int .u8) a2 false)), (7, (.int .i64 a3)), (8, (.int .i64 a4)), (17, (.bool a5))], heap := [], salt := 0 }
noncomputable abbrev value_Fault (x0 : Int) : Option (Int × (Bool × List UInt8 × List UInt8) × List UInt8 × Bool × Int) := (top CT).callF 79 (x0)
noncomputable abbrev nat_Add (x0 : List UInt8) (x1 : List UInt8) : Option (List UInt8) := (top CT).callF 89 (x0, x1)
noncomputable abbrev nat_Add_1 (a1 : List Int) (a2 : List Int) (a3 : Int) (a4 : Int) (a5 : Int) (a6 : List Int) : Option (List UInt8) := (top CT).stage 89 [] 89 [0, 1, 0, 1, 1, 1, 1] { env := [(5, (.sl (.int .u32) a1 false)), (6, (.sl (.int .u32) a2 false)), (7, (.who 1099511627776 false)), (8, (.int .u64 a3)), (19, (.int .i64 a4)), (20, (.int .i64 a5))], heap := [(1099511627776, .arr (.int .u32) a6)], salt := 0 }
noncomputable abbrev nat_Mul (x0 : List UInt8) (x1 : List UInt8) : Option (List UInt8) := (top CT).callF 90 (x0, x1)
noncomputable abbrev nat_Mul_1 (a1 : List Int) (a2 : List Int) (a3 : Int) (a4 : Int) (a5 : List Int) : Option (List UInt8) := (top CT).stage 90 [] 90 [0, 1, 0, 1, 1, 1] { env := [(5, (.sl (.int .u32) a1 false)), (6, (.sl (.int .u32) a2 false)), (7, (.who 1099511627777 false)), (23, (.int .i64 a3)), (24, (.int .i64 a4))], heap := [(1099511627777, .arr (.int .u32) a5)], salt := 0 }
noncomputable abbrev nat_Mul_2 (a1 : List Int) (a2 : List Int) (a3 : Int) (a4 : Int) (a5 : Int) (a6 : Int) (a7 : Int) (a8 : Int) (a9 : List Int) : Option (List UInt8) := (top CT).stage 90 [] 90 [0, 1, 0, 1, 1, 0, 0, 1, 1, 0, 0, 1, 0, 1, 1, 1] { env := [(5, (.sl (.int .u32) a1 false)), (6, (.sl (.int .u32) a2 false)), (7, (.who 1099511627778 false)), (8, (.int .i64 a3)), (9, (.int .u64 a4)), (23, (.int .i64 a5)), (24, (.int .i64 a6)), (28, (.int .i64 a7)), (29, (.int .i64 a8))], heap := [(1099511627778, .arr (.int .u32) a9)], salt := 0 }
noncomputable abbrev nat_Of (x0 : Int) : Option (List UInt8) := (top CT).callF 91 (x0)
noncomputable abbrev nat_Trim (x0 : List UInt8) : Option (List UInt8) := (top CT).callF 92 (x0)
noncomputable abbrev divide_Gcd (x0 : List UInt8) (x1 : List UInt8) : Option (List UInt8) := (top CT).callF 93 (x0, x1)
noncomputable abbrev divide_Gcd_1 (a1 : List UInt8) (a2 : List UInt8) : Option (List UInt8) := (top CT).stage 93 [] 93 [0, 0, 1, 1] { env := [(0, (.str a1)), (1, (.str a2))], heap := [], salt := 0 }
noncomputable abbrev divide_DivMod (x0 : List UInt8) (x1 : List UInt8) : Option (List UInt8 × List UInt8 × Int) := (top CT).callF 94 (x0, x1)
noncomputable abbrev divide_DivMod_1 (a1 : List Int) (a2 : List Int) : Option (List UInt8 × List UInt8 × Int) := (top CT).stage 94 [] 94 [1, 1, 1] { env := [(7, (.sl (.int .u32) a1 false)), (8, (.sl (.int .u32) a2 false))], heap := [], salt := 0 }
noncomputable abbrev divide_Pow (x0 : List UInt8) (x1 : Int) : Option (List UInt8 × Int) := (top CT).callF 95 (x0, x1)
noncomputable abbrev divide_Pow_1 (a1 : List UInt8) (a2 : Int) (a3 : Bool) : Option (List UInt8 × Int) := (top CT).stage 95 [] 95 [1, 1, 1, 1, 1, 0, 1, 0, 1] { env := [(0, (.str a1)), (1, (.int .i64 a2)), (18, (.bool a3))], heap := [], salt := 0 }
noncomputable abbrev divide_Pow_2 (a1 : List UInt8) (a2 : Int) (a3 : Int) (a4 : List UInt8) : Option (List UInt8 × Int) := (top CT).stage 95 [] 95 [0, 1, 0, 1, 1, 1, 1] { env := [(0, (.str a1)), (1, (.int .i64 a2)), (6, (.ptr 96 0)), (7, (.func 111 [] [(.ptr 96 0)])), (8, (.int .i64 a3))], heap := [(96, .box [(.str a4)])], salt := 0 }
noncomputable abbrev divide_Pow_3 (a1 : List UInt8) (a2 : List UInt8) (a3 : List UInt8) (a4 : Int) (a5 : Int) : Option (List UInt8 × Int) := (top CT).stage 95 [{ f := 95, path := [0, 0, 0, 1, 0, 0, 1, 0, 1, 1, 1, 1], op := 2, rest := [3, 4, 5, 6, 7, 8, 9, 10, 11, 12, 13, 14, 15, 16], env := [(0, (.str a3)), (1, (.int .i64 a4)), (6, (.ptr 96 0)), (7, (.func 111 [] [(.ptr 96 0)])), (8, (.int .i64 a5))], salt := 0 }] 111 [] { env := [(0, (.str a1)), (1, (.ptr 96 0))], heap := [(96, .box [(.str a2)])], salt := 43 }
noncomputable abbrev divide_Pow_4 (a1 : List UInt8) (a2 : Int) (a3 : Int) (a4 : Bool) (a5 : List UInt8) : Option (List UInt8 × Int) := (top CT).stage 95 [] 95 [1, 0, 0, 1, 0, 0, 1, 0, 1, 1, 1, 1] { env := [(0, (.str a1)), (1, (.int .i64 a2)), (6, (.ptr 96 0)), (7, (.func 111 [] [(.ptr 96 0)])), (8, (.int .i64 a3)), (56, (.bool a4))], heap := [(96, .box [(.str a5)])], salt := 0 }
noncomputable abbrev divide_Pow_5 (a1 : List UInt8) (a2 : List UInt8) (a3 : List UInt8) (a4 : Int) (a5 : Int) (a6 : Bool) (a7 : Bool) : Option (List UInt8 × Int) := (top CT).stage 95 [{ f := 95, path := [0, 0, 0, 1, 0, 0, 1, 0, 1, 1, 1, 1], op := 13, rest := [14, 15, 16], env := [(0, (.str a3)), (1, (.int .i64 a4)), (6, (.ptr 96 0)), (7, (.func 111 [] [(.ptr 96 0)])), (8, (.int .i64 a5)), (44, (.bool a6)), (50, (.bool a7))], salt := 0 }] 111 [] { env := [(0, (.str a1)), (1, (.ptr 96 0))], heap := [(96, .box [(.str a2)])], salt := 54 }
noncomputable abbrev nat_read (x0 : List UInt8) : Option (List Int) := (top CT).callF 102 (x0)
noncomputable abbrev nat_read_1 (a1 : List UInt8) (a2 : List Int) : Option (List Int) := (top CT).stage 102 [] 102 [0, 0, 1, 1] { env := [(0, (.str a1)), (3, (.who 1099511627779 false))], heap := [(1099511627779, .arr (.int .u32) a2)], salt := 0 }
noncomputable abbrev nat_read_2 (a1 : List UInt8) (a2 : Int) (a3 : Int) (a4 : List Int) (a5 : Int) (a6 : Int) (a7 : List Int) : Option (List Int) := (top CT).stage 102 [] 102 [0, 1, 0, 1, 1, 0, 1, 0, 0, 0, 1, 1] { env := [(0, (.str a1)), (3, (.who 1099511627780 false)), (4, (.int .i64 a2)), (5, (.int .u32 a3)), (18, (.sl (.int .u8) a4 false)), (19, (.int .i64 a5)), (20, (.int .i64 a6))], heap := [(1099511627780, .arr (.int .u32) a7)], salt := 0 }
noncomputable abbrev nat_limbs_at (x0 : List Int) (x1 : Int) : Option (Int) := (top CT).callF 103 (x0, x1)
noncomputable abbrev nat_limbs_text (x0 : List Int) : Option (List UInt8) := (top CT).callF 104 (x0)
noncomputable abbrev strings_TrimLeft (x0 : List UInt8) (x1 : List UInt8) : Option (List UInt8) := (top CT).callF 105 (x0, x1)
noncomputable abbrev divide_read (x0 : List UInt8) : Option (List Int) := (top CT).callF 106 (x0)
noncomputable abbrev divide_read_1 (a1 : List UInt8) (a2 : List Int) : Option (List Int) := (top CT).stage 106 [] 106 [0, 1, 0, 1, 1] { env := [(0, (.str a1)), (3, (.who 1099511627781 false))], heap := [(1099511627781, .arr (.int .u32) a2)], salt := 0 }
noncomputable abbrev nat_Cmp (x0 : List UInt8) (x1 : List UInt8) : Option (Int) := (top CT).callF 107 (x0, x1)
noncomputable abbrev divide_limbs_short (x0 : List Int) (x1 : Int) : Option (List Int × List Int) := (top CT).callF 108 (x0, x1)
noncomputable abbrev divide_limbs_long (x0 : List Int) (x1 : List Int) : Option (List Int × List Int) := (top CT).callF 109 (x0, x1)
noncomputable abbrev divide_limbs_long_1 (a1 : List Int) (a2 : Int) (a3 : Int) (a4 : Int) (a5 : List Int) (a6 : List Int) : Option (List Int × List Int) := (top CT).stage 109 [] 109 [0, 1, 0, 1, 1, 1, 1, 1, 1] { env := [(1, (.sl (.int .u32) a1 false)), (6, (.int .i64 a2)), (7, (.who 1099511627782 false)), (8, (.int .i64 a3)), (9, (.who 1099511627783 false)), (10, (.int .i64 a4))], heap := [(1099511627782, .arr (.int .u32) a5), (1099511627783, .arr (.int .u32) a6)], salt := 0 }
noncomputable abbrev divide_limbs_long_2 (a1 : List Int) (a2 : Int) (a3 : Int) (a4 : List Int) (a5 : List Int) (a6 : List Int) (a7 : Int) (a8 : Int) (a9 : Int) (a10 : Int) : Option (List Int × List Int) := (top CT).stage 109 [{ f := 109, path := [0, 0, 1, 0, 0, 1, 0, 0, 1, 0, 1, 1, 1, 1, 1, 1], op := 4, rest := [5], env := [(1, (.sl (.int .u32) a6 false)), (6, (.int .i64 a7)), (7, (.who 1099511627782 false)), (8, (.int .i64 a8)), (9, (.who 1099511627783 false)), (10, (.int .i64 a9)), (11, (.int .u64 a10))], salt := 0 }] 130 [] { env := [(0, (.who 1099511627782 false)), (1, (.sl (.int .u32) a1 false)), (2, (.int .u64 a2)), (3, (.int .i64 a3))], heap := [(1099511627782, .arr (.int .u32) a4), (1099511627783, .arr (.int .u32) a5)], salt := 85 }
noncomputable abbrev divide_limbs_long_3 (a1 : List Int) (a2 : Int) (a3 : Int) (a4 : Int) (a5 : Int) (a6 : Int) (a7 : Int) (a8 : List Int) (a9 : List Int) (a10 : List Int) (a11 : Int) (a12 : Int) (a13 : Int) (a14 : Int) : Option (List Int × List Int) := (top CT).stage 109 [{ f := 109, path := [0, 0, 1, 0, 0, 1, 0, 0, 1, 0, 1, 1, 1, 1, 1, 1], op := 4, rest := [5], env := [(1, (.sl (.int .u32) a10 false)), (6, (.int .i64 a11)), (7, (.who 1099511627782 false)), (8, (.int .i64 a12)), (9, (.who 1099511627783 false)), (10, (.int .i64 a13)), (11, (.int .u64 a14))], salt := 0 }] 130 [0, 1, 0, 1, 1] { env := [(0, (.who 1099511627782 false)), (1, (.sl (.int .u32) a1 false)), (2, (.int .u64 a2)), (3, (.int .i64 a3)), (9, (.int .u64 a4)), (10, (.int .u64 a5)), (16, (.int .i64 a6)), (17, (.int .i64 a7))], heap := [(1099511627782, .arr (.int .u32) a8), (1099511627783, .arr (.int .u32) a9)], salt := 85 }
noncomputable abbrev divide_limbs_long_4 (a1 : List Int) (a2 : Int) (a3 : List Int) (a4 : List Int) (a5 : List Int) (a6 : Int) (a7 : Int) (a8 : Int) (a9 : Int) : Option (List Int × List Int) := (top CT).stage 109 [{ f := 109, path := [1, 0, 1, 0, 1, 0, 0, 1, 0, 0, 1, 0, 1, 1, 1, 1, 1, 1], op := 3, rest := [], env := [(1, (.sl (.int .u32) a5 false)), (6, (.int .i64 a6)), (7, (.who 1099511627782 false)), (8, (.int .i64 a7)), (9, (.who 1099511627783 false)), (10, (.int .i64 a8)), (11, (.int .u64 a9))], salt := 0 }] 131 [] { env := [(0, (.who 1099511627782 false)), (1, (.sl (.int .u32) a1 false)), (2, (.int .i64 a2))], heap := [(1099511627782, .arr (.int .u32) a3), (1099511627783, .arr (.int .u32) a4)], salt := 92 }
noncomputable abbrev divide_limbs_long_5 (a1 : List Int) (a2 : Int) (a3 : Int) (a4 : Int) (a5 : Int) (a6 : List Int) (a7 : List Int) (a8 : List Int) (a9 : Int) (a10 : Int) (a11 : Int) (a12 : Int) : Option (List Int × List Int) := (top CT).stage 109 [{ f := 109, path := [1, 0, 1, 0, 1, 0, 0, 1, 0, 0, 1, 0, 1, 1, 1, 1, 1, 1], op := 3, rest := [], env := [(1, (.sl (.int .u32) a8 false)), (6, (.int .i64 a9)), (7, (.who 1099511627782 false)), (8, (.int .i64 a10)), (9, (.who 1099511627783 false)), (10, (.int .i64 a11)), (11, (.int .u64 a12))], salt := 0 }] 131 [0, 1, 0, 1] { env := [(0, (.who 1099511627782 false)), (1, (.sl (.int .u32) a1 false)), (2, (.int .i64 a2)), (6, (.int .u64 a3)), (10, (.int .i64 a4)), (11, (.int .i64 a5))], heap := [(1099511627782, .arr (.int .u32) a6), (1099511627783, .arr (.int .u32) a7)], salt := 92 }
noncomputable abbrev divide_limbs_text (x0 : List Int) : Option (List UInt8) := (top CT).callF 110 (x0)
noncomputable abbrev math_bits_Len (x0 : Int) : Option (Int) := (top CT).callF 112 (x0)
noncomputable abbrev nat_limbs_cut (x0 : List Int) : Option (List Int) := (top CT).callF 118 (x0)
noncomputable abbrev nat_limbs_cut_1 (a1 : List Int) : Option (List Int) := (top CT).stage 118 [] 118 [0, 0, 1] { env := [(0, (.sl (.int .u32) a1 false))], heap := [], salt := 0 }
noncomputable abbrev nat_limbs_cut_2 (a1 : List Int) (a2 : Bool) : Option (List Int) := (top CT).stage 118 [] 118 [1, 0, 0, 0, 0, 1] { env := [(0, (.sl (.int .u32) a1 false)), (14, (.bool a2))], heap := [], salt := 0 }
noncomputable abbrev nat_Small (x0 : List UInt8) : Option (Int × Bool) := (top CT).callF 124 (x0)
noncomputable abbrev nat_limbs_cmp (x0 : List Int) (x1 : List Int) : Option (Int) := (top CT).callF 125 (x0, x1)
noncomputable abbrev math_bits_LeadingZeros32 (x0 : Int) : Option (Int) := (top CT).callF 127 (x0)
noncomputable abbrev divide_limbs_shifted (x0 : List Int) (x1 : Int) : Option (List Int) := (top CT).callF 128 (x0, x1)
noncomputable abbrev divide_limbs_shifted_1 (a1 : List Int) (a2 : Int) (a3 : Int) (a4 : List Int) (a5 : Int) (a6 : Int) (a7 : List Int) : Option (List Int) := (top CT).stage 128 [] 128 [0, 1, 0, 1, 1, 1] { env := [(0, (.sl (.int .u32) a1 false)), (1, (.int .i64 a2)), (5, (.who 1099511627784 false)), (6, (.int .u64 a3)), (14, (.sl (.int .u32) a4 false)), (15, (.int .i64 a5)), (16, (.int .i64 a6))], heap := [(1099511627784, .arr (.int .u32) a7)], salt := 0 }
noncomputable abbrev divide_guess (x0 : Int) (x1 : Int) (x2 : Int) (x3 : Int) (x4 : Int) : Option (Int) := (top CT).callF 129 (x0, x1, x2, x3, x4)
noncomputable abbrev divide_guess_1 (a1 : Int) (a2 : Int) (a3 : Int) (a4 : Int) (a5 : Int) : Option (Int) := (top CT).stage 129 [] 129 [0, 0, 1, 1, 1, 0, 1] { env := [(2, (.int .u64 a1)), (3, (.int .u64 a2)), (4, (.int .u64 a3)), (12, (.int .u64 a4)), (13, (.int .u64 a5))], heap := [], salt := 0 }
noncomputable abbrev divide_guess_2 (a1 : Int) (a2 : Int) (a3 : Int) (a4 : Int) (a5 : Int) (a6 : Bool) : Option (Int) := (top CT).stage 129 [] 129 [1, 0, 0, 0, 0, 1, 1, 1, 0, 1] { env := [(2, (.int .u64 a1)), (3, (.int .u64 a2)), (4, (.int .u64 a3)), (12, (.int .u64 a4)), (13, (.int .u64 a5)), (36, (.bool a6))], heap := [], salt := 0 }
noncomputable abbrev divide_limbs_back (x0 : List Int) (x1 : Int) : Option (List Int) := (top CT).callF 132 (x0, x1)
noncomputable abbrev divide_limbs_back_1 (a1 : List Int) (a2 : Int) (a3 : Int) (a4 : Int) (a5 : List Int) : Option (List Int) := (top CT).stage 132 [] 132 [0, 1, 0, 1, 1] { env := [(0, (.sl (.int .u32) a1 false)), (1, (.int .i64 a2)), (5, (.who 1099511627785 false)), (12, (.int .i64 a3)), (13, (.int .i64 a4))], heap := [(1099511627785, .arr (.int .u32) a5)], salt := 0 }
noncomputable abbrev divide_limbs_back_2 (a1 : List Int) (a2 : Int) (a3 : Int) (a4 : Int) (a5 : Int) (a6 : Int) (a7 : List Int) : Option (List Int) := (top CT).stage 132 [] 132 [1, 1, 1, 0, 0, 1, 1, 0, 0, 1, 0, 1, 1] { env := [(0, (.sl (.int .u32) a1 false)), (1, (.int .i64 a2)), (5, (.who 1099511627786 false)), (6, (.int .i64 a3)), (7, (.int .u64 a4)), (12, (.int .i64 a5)), (13, (.int .i64 a6))], heap := [(1099511627786, .arr (.int .u32) a7)], salt := 0 }
end Go.Proofs.YtenebjaipfcflaaDoor.C

/- The machine at this seat: its equations. -/
set_option linter.unusedVariables false
set_option maxRecDepth 100000
namespace Go.Proofs.YtenebjaipfcflaaDoor.C
open Go Go.Proofs.YtenebjaipfcflaaDoor.K
theorem nat_Trim_eq (x0 : List UInt8) : nat_Trim x0 = (strings_TrimLeft x0 ([0] : List UInt8)).bind fun v1 => some v1 := (top_call ..).trans (by kernel_rfl)
theorem nat_Of_eq (x0 : Int) : nat_Of x0 = cond (decide (0 ≤ 32)) ((nat_limbs_text [IntKind.u32.wrap x0, IntKind.u32.wrap (x0.fdiv (2 ^ min 32 IntKind.u64.bits))]).bind fun v1 => some v1) none := (top_call ..).trans (by kernel_rfl)
theorem nat_Small_eq (x0 : List UInt8) : nat_Small x0 = (nat_read x0).bind fun v1 => cond (decide ((v1.length : Int) > 2)) (some (0, false)) ((nat_limbs_at v1 1).bind fun v2 => cond (decide (0 ≤ 32)) ((nat_limbs_at v1 0).bind fun v3 => some (bitop .or .u64 (IntKind.u64.wrap (v2 * 2 ^ min 32 IntKind.u64.bits)) v3, true)) none) := (top_call ..).trans (by kernel_rfl)
theorem nat_Add_eq (x0 : List UInt8) (x1 : List UInt8) : nat_Add x0 x1 = (nat_read x0).bind fun v1 => (nat_read x1).bind fun v2 => nat_Add_1 v1 v2 0 (max (v1.length : Int) (v2.length : Int)) 0 [] := (top_call ..).trans (by kernel_rfl)
theorem nat_Add_1_eq (a1 : List Int) (a2 : List Int) (a3 : Int) (a4 : Int) (a5 : Int) (a6 : List Int) : nat_Add_1 a1 a2 a3 a4 a5 a6 = cond (decide (a5 < a4)) ((nat_limbs_at a1 a5).bind fun v1 => (nat_limbs_at a2 a5).bind fun v2 => cond (Nat.ble ((a6.length + [IntKind.u32.wrap (IntKind.u64.wrap ((IntKind.u64.wrap (v1 + v2)) + a3))].length) * 4) 140737488355328) (cond (decide (0 ≤ 32)) (nat_Add_1 a1 a2 ((IntKind.u64.wrap ((IntKind.u64.wrap (v1 + v2)) + a3)).fdiv (2 ^ min 32 IntKind.u64.bits)) a4 (IntKind.i64.wrap (a5 + 1)) (a6 ++ [IntKind.u32.wrap (IntKind.u64.wrap ((IntKind.u64.wrap (v1 + v2)) + a3))])) none) none) (cond (Nat.ble ((a6.length + [IntKind.u32.wrap a3].length) * 4) 140737488355328) ((nat_limbs_text (a6 ++ [IntKind.u32.wrap a3])).bind fun v3 => some v3) none) := (top_stage ..).trans (by kernel_rfl)
theorem nat_Mul_eq (x0 : List UInt8) (x1 : List UInt8) : nat_Mul x0 x1 = (nat_read x0).bind fun v1 => (nat_read x1).bind fun v2 => cond (decide (0 ≤ (IntKind.i64.wrap ((v1.length : Int) + (v2.length : Int)))) && (decide ((IntKind.i64.wrap ((v1.length : Int) + (v2.length : Int))) ≤ (IntKind.i64.wrap ((v1.length : Int) + (v2.length : Int)))) && decide (((4 : Nat) : Int) * (IntKind.i64.wrap ((v1.length : Int) + (v2.length : Int))) ≤ 281474976710656))) (nat_Mul_1 v1 v2 (v1.length : Int) 0 (List.replicate ((IntKind.i64.wrap ((v1.length : Int) + (v2.length : Int))).toNat) 0)) none := (top_call ..).trans (by kernel_rfl)
theorem nat_Mul_1_eq (a1 : List Int) (a2 : List Int) (a3 : Int) (a4 : Int) (a5 : List Int) : nat_Mul_1 a1 a2 a3 a4 a5 = cond (decide (a4 < a3)) (nat_Mul_2 a1 a2 a4 0 a3 a4 (a2.length : Int) 0 a5) ((nat_limbs_text a5).bind fun v1 => some v1) := (top_stage ..).trans (by kernel_rfl)
theorem nat_Mul_2_eq (a1 : List Int) (a2 : List Int) (a3 : Int) (a4 : Int) (a5 : Int) (a6 : Int) (a7 : Int) (a8 : Int) (a9 : List Int) : nat_Mul_2 a1 a2 a3 a4 a5 a6 a7 a8 a9 = cond (decide (a8 < a7)) ((nat_limbs_at a1 a3).bind fun v1 => (nat_limbs_at a2 a8).bind fun v2 => (nat_limbs_at a9 (IntKind.i64.wrap (a3 + a8))).bind fun v3 => cond (decide (0 ≤ (IntKind.i64.wrap (a3 + a8))) && decide ((IntKind.i64.wrap (a3 + a8)) < (a9.length : Int))) (cond (decide (0 ≤ 32)) (nat_Mul_2 a1 a2 a3 ((IntKind.u64.wrap ((IntKind.u64.wrap ((IntKind.u64.wrap (v1 * v2)) + v3)) + a4)).fdiv (2 ^ min 32 IntKind.u64.bits)) a5 a6 a7 (IntKind.i64.wrap (a8 + 1)) (a9.set ((IntKind.i64.wrap (a3 + a8)).toNat) (IntKind.u32.wrap (IntKind.u64.wrap ((IntKind.u64.wrap ((IntKind.u64.wrap (v1 * v2)) + v3)) + a4))))) none) none) (cond (decide (0 ≤ (IntKind.i64.wrap (a3 + (a2.length : Int)))) && decide ((IntKind.i64.wrap (a3 + (a2.length : Int))) < (a9.length : Int))) (nat_Mul_1 a1 a2 a5 (IntKind.i64.wrap (a6 + 1)) (a9.set ((IntKind.i64.wrap (a3 + (a2.length : Int))).toNat) (IntKind.u32.wrap a4))) none) := (top_stage ..).trans (by kernel_rfl)
theorem nat_Cmp_eq (x0 : List UInt8) (x1 : List UInt8) : nat_Cmp x0 x1 = (nat_read x0).bind fun v1 => (nat_read x1).bind fun v2 => (nat_limbs_cmp v1 v2).bind fun v3 => some v3 := (top_call ..).trans (by kernel_rfl)
theorem divide_DivMod_eq (x0 : List UInt8) (x1 : List UInt8) : divide_DivMod x0 x1 = (divide_read x0).bind fun v1 => (divide_read x1).bind fun v2 => cond (decide ((v2.length : Int) = 0)) (some (([] : List UInt8), ([] : List UInt8), 5)) ((nat_Cmp x0 x1).bind fun v3 => cond (decide (v3 < 0)) ((nat_Trim x0).bind fun v4 => some (([] : List UInt8), v4, 0)) (cond (decide ((v2.length : Int) = 1)) (cond (decide (0 ≤ 0) && decide (0 < (v2.length : Int))) ((divide_limbs_short v1 (v2.getD 0 0)).bind fun v5 => divide_DivMod_1 v5.1 v5.2) none) ((divide_limbs_long v1 v2).bind fun v6 => divide_DivMod_1 v6.1 v6.2))) := (top_call ..).trans (by kernel_rfl)
theorem divide_DivMod_1_eq (a1 : List Int) (a2 : List Int) : divide_DivMod_1 a1 a2 = (divide_limbs_text a1).bind fun v1 => (divide_limbs_text a2).bind fun v2 => some (v1, v2, 0) := (top_stage ..).trans (by kernel_rfl)
theorem divide_Gcd_eq (x0 : List UInt8) (x1 : List UInt8) : divide_Gcd x0 x1 = (nat_Trim x0).bind fun v1 => (nat_Trim x1).bind fun v2 => divide_Gcd_1 v1 v2 := (top_call ..).trans (by kernel_rfl)
theorem divide_Gcd_1_eq (a1 : List UInt8) (a2 : List UInt8) : divide_Gcd_1 a1 a2 = cond (!decide (a2 = ([] : List UInt8))) ((divide_DivMod a1 a2).bind fun v1 => cond (!decide (v1.2.2 = 0)) (some a1) (divide_Gcd_1 a2 v1.2.1)) (some a1) := (top_stage ..).trans (by kernel_rfl)
theorem divide_Pow_eq (x0 : List UInt8) (x1 : Int) : divide_Pow x0 x1 = (nat_Trim x0).bind fun v1 => cond (decide (x1 < 0)) (some (([] : List UInt8), 2)) (cond (decide (x1 = 0)) ((nat_Of 1).bind fun v2 => some (v2, 0)) (cond (decide (v1 = ([] : List UInt8))) (divide_Pow_1 v1 x1 true) ((nat_Of 1).bind fun v3 => divide_Pow_1 v1 x1 (decide (v1 = v3))))) := (top_call ..).trans (by kernel_rfl)
theorem divide_Pow_1_eq (a1 : List UInt8) (a2 : Int) (a3 : Bool) : divide_Pow_1 a1 a2 a3 = cond a3 (some (a1, 0)) (cond (decide (a2 > 8192)) (some (([] : List UInt8), 9)) ((nat_Of 1).bind fun v1 => (math_bits_Len (IntKind.u64.wrap a2)).bind fun v2 => divide_Pow_2 a1 a2 (IntKind.i64.wrap (v2 - 1)) v1)) := (top_stage ..).trans (by kernel_rfl)
theorem divide_Pow_2_eq (a1 : List UInt8) (a2 : Int) (a3 : Int) (a4 : List UInt8) : divide_Pow_2 a1 a2 a3 a4 = cond (decide (a3 ≥ 0)) (divide_Pow_3 a4 a4 a1 a2 a3) (some (a4, 0)) := (top_stage ..).trans (by kernel_rfl)
theorem divide_Pow_3_eq (a1 : List UInt8) (a2 : List UInt8) (a3 : List UInt8) (a4 : Int) (a5 : Int) : divide_Pow_3 a1 a2 a3 a4 a5 = (nat_Mul a2 a1).bind fun v1 => cond (!(decide ((v1.length : Int) ≤ 1024))) (divide_Pow_4 a3 a4 a5 true v1) (cond (decide (0 ≤ a5)) (cond (decide ((bitop .and .i64 (a4.fdiv (2 ^ min a5.toNat IntKind.i64.bits)) 1) = 1)) (divide_Pow_5 a3 v1 a3 a4 a5 false true) (divide_Pow_4 a3 a4 a5 false v1)) none) := (top_stage ..).trans (by kernel_rfl)
theorem divide_Pow_4_eq (a1 : List UInt8) (a2 : Int) (a3 : Int) (a4 : Bool) (a5 : List UInt8) : divide_Pow_4 a1 a2 a3 a4 a5 = cond a4 (some (([] : List UInt8), 9)) (divide_Pow_2 a1 a2 (IntKind.i64.wrap (a3 - 1)) a5) := (top_stage ..).trans (by kernel_rfl)
theorem divide_Pow_5_eq (a1 : List UInt8) (a2 : List UInt8) (a3 : List UInt8) (a4 : Int) (a5 : Int) (a6 : Bool) (a7 : Bool) : divide_Pow_5 a1 a2 a3 a4 a5 a6 a7 = (nat_Mul a2 a1).bind fun v1 => cond a7 (cond a6 (divide_Pow_4 a3 a4 a5 true v1) (divide_Pow_4 a3 a4 a5 (!(decide ((v1.length : Int) ≤ 1024))) v1)) (cond a6 (divide_Pow_4 a3 a4 a5 true v1) (divide_Pow_4 a3 a4 a5 false v1)) := (top_stage ..).trans (by kernel_rfl)
theorem value_Text_eq (x0 : List UInt8) : value_Text x0 = (value_plain x0).bind fun v1 => cond (!v1) ((value_Fault 2).bind fun v2 => some v2) (some (2, (false, [], []), x0, false, 0)) := (top_call ..).trans (by kernel_rfl)
theorem nat_read_eq (x0 : List UInt8) : nat_read x0 = nat_read_1 x0 [] := (top_call ..).trans (by kernel_rfl)
theorem nat_read_1_eq (a1 : List UInt8) (a2 : List Int) : nat_read_1 a1 a2 = cond (decide ((a1.length : Int) > 0)) (cond (decide (0 ≤ (max 0 (IntKind.i64.wrap ((a1.length : Int) - 4)))) && decide ((max 0 (IntKind.i64.wrap ((a1.length : Int) - 4))) ≤ (a1.length : Int))) (nat_read_2 a1 (max 0 (IntKind.i64.wrap ((a1.length : Int) - 4))) 0 ((a1.drop ((max 0 (IntKind.i64.wrap ((a1.length : Int) - 4))).toNat)).map fun b => (b.toNat : Int)) (((a1.drop ((max 0 (IntKind.i64.wrap ((a1.length : Int) - 4))).toNat)).map fun b => (b.toNat : Int)).length : Int) 0 a2) none) ((nat_limbs_cut a2).bind fun v1 => some v1) := (top_stage ..).trans (by kernel_rfl)
theorem nat_read_2_eq (a1 : List UInt8) (a2 : Int) (a3 : Int) (a4 : List Int) (a5 : Int) (a6 : Int) (a7 : List Int) : nat_read_2 a1 a2 a3 a4 a5 a6 a7 = cond (decide (a6 < a5)) (cond (decide (0 ≤ a6) && decide (a6 < (a4.length : Int))) (cond (decide (0 ≤ 8)) (nat_read_2 a1 a2 (bitop .or .u32 (IntKind.u32.wrap (a3 * 2 ^ min 8 IntKind.u32.bits)) (IntKind.u32.wrap (a4.getD a6.toNat 0))) a4 a5 (IntKind.i64.wrap (a6 + 1)) a7) none) none) (cond (Nat.ble ((a7.length + [a3].length) * 4) 140737488355328) (cond (decide (0 ≤ a2) && decide (a2 ≤ (a1.length : Int))) (nat_read_1 (a1.take a2.toNat) (a7 ++ [a3])) none) none) := (top_stage ..).trans (by kernel_rfl)
theorem nat_limbs_at_eq (x0 : List Int) (x1 : Int) : nat_limbs_at x0 x1 = cond (decide (x1 ≥ (x0.length : Int))) (some 0) (cond (decide (0 ≤ x1) && decide (x1 < (x0.length : Int))) (some (IntKind.u64.wrap (x0.getD x1.toNat 0))) none) := (top_call ..).trans (by kernel_rfl)
theorem divide_read_eq (x0 : List UInt8) : divide_read x0 = (nat_Trim x0).bind fun v1 => divide_read_1 v1 [] := (top_call ..).trans (by kernel_rfl)
theorem divide_read_1_eq (a1 : List UInt8) (a2 : List Int) : divide_read_1 a1 a2 = cond (decide ((a1.length : Int) > 0)) (cond (decide (0 ≤ (max 0 (IntKind.i64.wrap ((a1.length : Int) - 4)))) && decide ((max 0 (IntKind.i64.wrap ((a1.length : Int) - 4))) ≤ (a1.length : Int))) ((nat_Small (a1.drop ((max 0 (IntKind.i64.wrap ((a1.length : Int) - 4))).toNat))).bind fun v1 => cond (Nat.ble ((a2.length + [IntKind.u32.wrap v1.1].length) * 4) 140737488355328) (cond (decide (0 ≤ (max 0 (IntKind.i64.wrap ((a1.length : Int) - 4)))) && decide ((max 0 (IntKind.i64.wrap ((a1.length : Int) - 4))) ≤ (a1.length : Int))) (divide_read_1 (a1.take ((max 0 (IntKind.i64.wrap ((a1.length : Int) - 4))).toNat)) (a2 ++ [IntKind.u32.wrap v1.1])) none) none) none) (some a2) := (top_stage ..).trans (by kernel_rfl)
theorem divide_limbs_long_eq (x0 : List Int) (x1 : List Int) : divide_limbs_long x0 x1 = cond (decide (0 ≤ (IntKind.i64.wrap ((x1.length : Int) - 1))) && decide ((IntKind.i64.wrap ((x1.length : Int) - 1)) < (x1.length : Int))) ((math_bits_LeadingZeros32 (x1.getD ((IntKind.i64.wrap ((x1.length : Int) - 1)).toNat) 0)).bind fun v1 => (divide_limbs_shifted x0 v1).bind fun v2 => (divide_limbs_shifted x1 v1).bind fun v3 => cond (decide (0 ≤ (x1.length : Int)) && decide ((x1.length : Int) ≤ (v3.length : Int))) (cond (decide (0 ≤ (IntKind.i64.wrap ((IntKind.i64.wrap ((x0.length : Int) - ((((x1.length : Int).toNat) - 0) : Int))) + 1))) && (decide ((IntKind.i64.wrap ((IntKind.i64.wrap ((x0.length : Int) - ((((x1.length : Int).toNat) - 0) : Int))) + 1)) ≤ (IntKind.i64.wrap ((IntKind.i64.wrap ((x0.length : Int) - ((((x1.length : Int).toNat) - 0) : Int))) + 1))) && decide (((4 : Nat) : Int) * (IntKind.i64.wrap ((IntKind.i64.wrap ((x0.length : Int) - ((((x1.length : Int).toNat) - 0) : Int))) + 1)) ≤ 281474976710656))) (divide_limbs_long_1 ((v3.drop 0).take (((x1.length : Int).toNat) - 0)) v1 ((((x1.length : Int).toNat) - 0) : Int) (IntKind.i64.wrap ((x0.length : Int) - ((((x1.length : Int).toNat) - 0) : Int))) v2 (List.replicate ((IntKind.i64.wrap ((IntKind.i64.wrap ((x0.length : Int) - ((((x1.length : Int).toNat) - 0) : Int))) + 1)).toNat) 0)) none) none) none := (top_call ..).trans (by kernel_rfl)
theorem divide_limbs_long_1_eq (a1 : List Int) (a2 : Int) (a3 : Int) (a4 : Int) (a5 : List Int) (a6 : List Int) : divide_limbs_long_1 a1 a2 a3 a4 a5 a6 = cond (decide (a4 ≥ 0)) (cond (decide (0 ≤ (IntKind.i64.wrap (a4 + a3))) && decide ((IntKind.i64.wrap (a4 + a3)) < (a5.length : Int))) (cond (decide (0 ≤ (IntKind.i64.wrap ((IntKind.i64.wrap (a4 + a3)) - 1))) && decide ((IntKind.i64.wrap ((IntKind.i64.wrap (a4 + a3)) - 1)) < (a5.length : Int))) (cond (decide (0 ≤ (IntKind.i64.wrap ((IntKind.i64.wrap (a4 + a3)) - 2))) && decide ((IntKind.i64.wrap ((IntKind.i64.wrap (a4 + a3)) - 2)) < (a5.length : Int))) (cond (decide (0 ≤ (IntKind.i64.wrap (a3 - 1))) && decide ((IntKind.i64.wrap (a3 - 1)) < (a1.length : Int))) (cond (decide (0 ≤ (IntKind.i64.wrap (a3 - 2))) && decide ((IntKind.i64.wrap (a3 - 2)) < (a1.length : Int))) ((divide_guess (IntKind.u64.wrap (a5.getD ((IntKind.i64.wrap (a4 + a3)).toNat) 0)) (IntKind.u64.wrap (a5.getD ((IntKind.i64.wrap ((IntKind.i64.wrap (a4 + a3)) - 1)).toNat) 0)) (IntKind.u64.wrap (a5.getD ((IntKind.i64.wrap ((IntKind.i64.wrap (a4 + a3)) - 2)).toNat) 0)) (IntKind.u64.wrap (a1.getD ((IntKind.i64.wrap (a3 - 1)).toNat) 0)) (IntKind.u64.wrap (a1.getD ((IntKind.i64.wrap (a3 - 2)).toNat) 0))).bind fun v1 => divide_limbs_long_2 a1 v1 a4 a5 a6 a1 a2 a3 a4 v1) none) none) none) none) none) (cond (decide (0 ≤ a3) && decide (a3 ≤ (a5.length : Int))) ((divide_limbs_back ((a5.drop 0).take (a3.toNat - 0)) a2).bind fun v2 => some (a6, v2)) none) := (top_stage ..).trans (by kernel_rfl)
theorem divide_limbs_long_2_eq (a1 : List Int) (a2 : Int) (a3 : Int) (a4 : List Int) (a5 : List Int) (a6 : List Int) (a7 : Int) (a8 : Int) (a9 : Int) (a10 : Int) : divide_limbs_long_2 a1 a2 a3 a4 a5 a6 a7 a8 a9 a10 = divide_limbs_long_3 a1 a2 a3 0 0 (a1.length : Int) 0 a4 a5 a6 a7 a8 a9 a10 := (top_stage ..).trans (by kernel_rfl)
theorem divide_limbs_long_3_eq (a1 : List Int) (a2 : Int) (a3 : Int) (a4 : Int) (a5 : Int) (a6 : Int) (a7 : Int) (a8 : List Int) (a9 : List Int) (a10 : List Int) (a11 : Int) (a12 : Int) (a13 : Int) (a14 : Int) : divide_limbs_long_3 a1 a2 a3 a4 a5 a6 a7 a8 a9 a10 a11 a12 a13 a14 = cond (decide (a7 < a6)) (cond (decide (0 ≤ a7) && decide (a7 < (a1.length : Int))) (cond (decide (0 ≤ 32)) (cond (decide (0 ≤ (IntKind.i64.wrap (a3 + a7))) && decide ((IntKind.i64.wrap (a3 + a7)) < (a8.length : Int))) (cond (decide (0 ≤ (IntKind.i64.wrap (a3 + a7))) && decide ((IntKind.i64.wrap (a3 + a7)) < (a8.length : Int))) (cond (decide (0 ≤ 63)) (divide_limbs_long_3 a1 a2 a3 ((IntKind.u64.wrap ((IntKind.u64.wrap (a2 * (IntKind.u64.wrap (a1.getD a7.toNat 0)))) + a4)).fdiv (2 ^ min 32 IntKind.u64.bits)) ((IntKind.u64.wrap ((IntKind.u64.wrap ((IntKind.u64.wrap (a8.getD ((IntKind.i64.wrap (a3 + a7)).toNat) 0)) - (bitop .and .u64 (IntKind.u64.wrap ((IntKind.u64.wrap (a2 * (IntKind.u64.wrap (a1.getD a7.toNat 0)))) + a4)) 4294967295))) - a5)).fdiv (2 ^ min 63 IntKind.u64.bits)) a6 (IntKind.i64.wrap (a7 + 1)) (a8.set ((IntKind.i64.wrap (a3 + a7)).toNat) (IntKind.u32.wrap (IntKind.u64.wrap ((IntKind.u64.wrap ((IntKind.u64.wrap (a8.getD ((IntKind.i64.wrap (a3 + a7)).toNat) 0)) - (bitop .and .u64 (IntKind.u64.wrap ((IntKind.u64.wrap (a2 * (IntKind.u64.wrap (a1.getD a7.toNat 0)))) + a4)) 4294967295))) - a5)))) a9 a10 a11 a12 a13 a14) none) none) none) none) none) (cond (decide (0 ≤ (IntKind.i64.wrap (a3 + (a1.length : Int)))) && decide ((IntKind.i64.wrap (a3 + (a1.length : Int))) < (a8.length : Int))) (cond (decide (0 ≤ (IntKind.i64.wrap (a3 + (a1.length : Int)))) && decide ((IntKind.i64.wrap (a3 + (a1.length : Int))) < (a8.length : Int))) (cond (decide (0 ≤ 63)) (cond (!(decide (((IntKind.u64.wrap ((IntKind.u64.wrap ((IntKind.u64.wrap (a8.getD ((IntKind.i64.wrap (a3 + (a1.length : Int))).toNat) 0)) - a4)) - a5)).fdiv (2 ^ min 63 IntKind.u64.bits)) = 0))) (divide_limbs_long_4 a10 a13 (a8.set ((IntKind.i64.wrap (a3 + (a1.length : Int))).toNat) (IntKind.u32.wrap (IntKind.u64.wrap ((IntKind.u64.wrap ((IntKind.u64.wrap (a8.getD ((IntKind.i64.wrap (a3 + (a1.length : Int))).toNat) 0)) - a4)) - a5)))) a9 a10 a11 a12 a13 (IntKind.u64.wrap (a14 - 1))) (cond (decide (0 ≤ a13) && decide (a13 < (a9.length : Int))) (divide_limbs_long_1 a10 a11 a12 (IntKind.i64.wrap (a13 - 1)) (a8.set ((IntKind.i64.wrap (a3 + (a1.length : Int))).toNat) (IntKind.u32.wrap (IntKind.u64.wrap ((IntKind.u64.wrap ((IntKind.u64.wrap (a8.getD ((IntKind.i64.wrap (a3 + (a1.length : Int))).toNat) 0)) - a4)) - a5)))) (a9.set a13.toNat (IntKind.u32.wrap a14))) none)) none) none) none) := (top_stage ..).trans (by kernel_rfl)
theorem divide_limbs_long_4_eq (a1 : List Int) (a2 : Int) (a3 : List Int) (a4 : List Int) (a5 : List Int) (a6 : Int) (a7 : Int) (a8 : Int) (a9 : Int) : divide_limbs_long_4 a1 a2 a3 a4 a5 a6 a7 a8 a9 = divide_limbs_long_5 a1 a2 0 (a1.length : Int) 0 a3 a4 a5 a6 a7 a8 a9 := (top_stage ..).trans (by kernel_rfl)
theorem divide_limbs_long_5_eq (a1 : List Int) (a2 : Int) (a3 : Int) (a4 : Int) (a5 : Int) (a6 : List Int) (a7 : List Int) (a8 : List Int) (a9 : Int) (a10 : Int) (a11 : Int) (a12 : Int) : divide_limbs_long_5 a1 a2 a3 a4 a5 a6 a7 a8 a9 a10 a11 a12 = cond (decide (a5 < a4)) (cond (decide (0 ≤ (IntKind.i64.wrap (a2 + a5))) && decide ((IntKind.i64.wrap (a2 + a5)) < (a6.length : Int))) (cond (decide (0 ≤ a5) && decide (a5 < (a1.length : Int))) (cond (decide (0 ≤ (IntKind.i64.wrap (a2 + a5))) && decide ((IntKind.i64.wrap (a2 + a5)) < (a6.length : Int))) (cond (decide (0 ≤ 32)) (divide_limbs_long_5 a1 a2 ((IntKind.u64.wrap ((IntKind.u64.wrap ((IntKind.u64.wrap (a6.getD ((IntKind.i64.wrap (a2 + a5)).toNat) 0)) + (IntKind.u64.wrap (a1.getD a5.toNat 0)))) + a3)).fdiv (2 ^ min 32 IntKind.u64.bits)) a4 (IntKind.i64.wrap (a5 + 1)) (a6.set ((IntKind.i64.wrap (a2 + a5)).toNat) (IntKind.u32.wrap (IntKind.u64.wrap ((IntKind.u64.wrap ((IntKind.u64.wrap (a6.getD ((IntKind.i64.wrap (a2 + a5)).toNat) 0)) + (IntKind.u64.wrap (a1.getD a5.toNat 0)))) + a3)))) a7 a8 a9 a10 a11 a12) none) none) none) none) (cond (decide (0 ≤ (IntKind.i64.wrap (a2 + (a1.length : Int)))) && decide ((IntKind.i64.wrap (a2 + (a1.length : Int))) < (a6.length : Int))) (cond (decide (0 ≤ (IntKind.i64.wrap (a2 + (a1.length : Int)))) && decide ((IntKind.i64.wrap (a2 + (a1.length : Int))) < (a6.length : Int))) (cond (decide (0 ≤ a11) && decide (a11 < (a7.length : Int))) (divide_limbs_long_1 a8 a9 a10 (IntKind.i64.wrap (a11 - 1)) (a6.set ((IntKind.i64.wrap (a2 + (a1.length : Int))).toNat) (IntKind.u32.wrap ((a6.getD ((IntKind.i64.wrap (a2 + (a1.length : Int))).toNat) 0) + (IntKind.u32.wrap a3)))) (a7.set a11.toNat (IntKind.u32.wrap a12))) none) none) none) := (top_stage ..).trans (by kernel_rfl)
theorem value_plain_eq (x0 : List UInt8) : value_plain x0 = value_plain_1 x0 (x0.map fun b => (b.toNat : Int)) ((x0.map fun b => (b.toNat : Int)).length : Int) 0 := (top_call ..).trans (by kernel_rfl)
theorem value_plain_1_eq (a1 : List UInt8) (a2 : List Int) (a3 : Int) (a4 : Int) : value_plain_1 a1 a2 a3 a4 = cond (decide (a4 < a3)) (cond (decide (0 ≤ a4) && decide (a4 < (a2.length : Int))) (cond (decide ((a2.getD a4.toNat 0) < 32)) (value_plain_2 a1 a2 a3 a4 true) (value_plain_2 a1 a2 a3 a4 (decide ((a2.getD a4.toNat 0) > 126)))) none) (some (decide ((a1.length : Int) ≤ 200))) := (top_stage ..).trans (by kernel_rfl)
theorem value_plain_2_eq (a1 : List UInt8) (a2 : List Int) (a3 : Int) (a4 : Int) (a5 : Bool) : value_plain_2 a1 a2 a3 a4 a5 = cond a5 (some false) (value_plain_1 a1 a2 a3 (IntKind.i64.wrap (a4 + 1))) := (top_stage ..).trans (by kernel_rfl)
theorem nat_limbs_cut_eq (x0 : List Int) : nat_limbs_cut x0 = nat_limbs_cut_1 x0 := (top_call ..).trans (by kernel_rfl)
theorem nat_limbs_cut_1_eq (a1 : List Int) : nat_limbs_cut_1 a1 = cond (decide ((a1.length : Int) > 0)) (cond (decide (0 ≤ (IntKind.i64.wrap ((a1.length : Int) - 1))) && decide ((IntKind.i64.wrap ((a1.length : Int) - 1)) < (a1.length : Int))) (nat_limbs_cut_2 a1 (decide ((a1.getD ((IntKind.i64.wrap ((a1.length : Int) - 1)).toNat) 0) = 0))) none) (nat_limbs_cut_2 a1 false) := (top_stage ..).trans (by kernel_rfl)
theorem nat_limbs_cut_2_eq (a1 : List Int) (a2 : Bool) : nat_limbs_cut_2 a1 a2 = cond a2 (cond (decide (0 ≤ (IntKind.i64.wrap ((a1.length : Int) - 1))) && decide ((IntKind.i64.wrap ((a1.length : Int) - 1)) ≤ (a1.length : Int))) (nat_limbs_cut_1 (a1.take ((IntKind.i64.wrap ((a1.length : Int) - 1)).toNat))) none) (some a1) := (top_stage ..).trans (by kernel_rfl)
theorem divide_limbs_shifted_eq (x0 : List Int) (x1 : Int) : divide_limbs_shifted x0 x1 = cond (decide (0 ≤ (IntKind.i64.wrap ((x0.length : Int) + 1))) && (decide ((IntKind.i64.wrap ((x0.length : Int) + 1)) ≤ (IntKind.i64.wrap ((x0.length : Int) + 1))) && decide (((4 : Nat) : Int) * (IntKind.i64.wrap ((x0.length : Int) + 1)) ≤ 281474976710656))) (divide_limbs_shifted_1 x0 x1 0 x0 (x0.length : Int) 0 (List.replicate ((IntKind.i64.wrap ((x0.length : Int) + 1)).toNat) 0)) none := (top_call ..).trans (by kernel_rfl)
theorem divide_limbs_shifted_1_eq (a1 : List Int) (a2 : Int) (a3 : Int) (a4 : List Int) (a5 : Int) (a6 : Int) (a7 : List Int) : divide_limbs_shifted_1 a1 a2 a3 a4 a5 a6 a7 = cond (decide (a6 < a5)) (cond (decide (0 ≤ a6) && decide (a6 < (a4.length : Int))) (cond (decide (0 ≤ a2)) (cond (decide (0 ≤ a6) && decide (a6 < (a7.length : Int))) (cond (decide (0 ≤ 32)) (divide_limbs_shifted_1 a1 a2 ((bitop .or .u64 (IntKind.u64.wrap ((IntKind.u64.wrap (a4.getD a6.toNat 0)) * 2 ^ min a2.toNat IntKind.u64.bits)) a3).fdiv (2 ^ min 32 IntKind.u64.bits)) a4 a5 (IntKind.i64.wrap (a6 + 1)) (a7.set a6.toNat (IntKind.u32.wrap (bitop .or .u64 (IntKind.u64.wrap ((IntKind.u64.wrap (a4.getD a6.toNat 0)) * 2 ^ min a2.toNat IntKind.u64.bits)) a3)))) none) none) none) none) (cond (decide (0 ≤ (a1.length : Int)) && decide ((a1.length : Int) < (a7.length : Int))) (some (a7.set ((a1.length : Int).toNat) (IntKind.u32.wrap a3))) none) := (top_stage ..).trans (by kernel_rfl)
theorem divide_guess_eq (x0 : Int) (x1 : Int) (x2 : Int) (x3 : Int) (x4 : Int) : divide_guess x0 x1 x2 x3 x4 = cond (decide (0 ≤ 32)) (cond (!decide (x3 = 0)) (cond (!decide (x3 = 0)) (divide_guess_1 x2 x3 x4 (IntKind.u64.wrap ((bitop .or .u64 (IntKind.u64.wrap (x0 * 2 ^ min 32 IntKind.u64.bits)) x1).tdiv x3)) ((bitop .or .u64 (IntKind.u64.wrap (x0 * 2 ^ min 32 IntKind.u64.bits)) x1).tmod x3)) none) none) none := (top_call ..).trans (by kernel_rfl)
theorem divide_guess_1_eq (a1 : Int) (a2 : Int) (a3 : Int) (a4 : Int) (a5 : Int) : divide_guess_1 a1 a2 a3 a4 a5 = cond (decide (0 ≤ 32)) (cond (decide ((a4.fdiv (2 ^ min 32 IntKind.u64.bits)) > 0)) (divide_guess_2 a1 a2 a3 a4 a5 true) (cond (decide (0 ≤ 32)) (divide_guess_2 a1 a2 a3 a4 a5 (decide ((IntKind.u64.wrap (a4 * a3)) > (bitop .or .u64 (IntKind.u64.wrap (a5 * 2 ^ min 32 IntKind.u64.bits)) a1)))) none)) none := (top_stage ..).trans (by kernel_rfl)
theorem divide_guess_2_eq (a1 : Int) (a2 : Int) (a3 : Int) (a4 : Int) (a5 : Int) (a6 : Bool) : divide_guess_2 a1 a2 a3 a4 a5 a6 = cond a6 (cond (decide (0 ≤ 32)) (cond (decide (((IntKind.u64.wrap (a5 + a2)).fdiv (2 ^ min 32 IntKind.u64.bits)) > 0)) (some (IntKind.u64.wrap (a4 - 1))) (divide_guess_1 a1 a2 a3 (IntKind.u64.wrap (a4 - 1)) (IntKind.u64.wrap (a5 + a2)))) none) (some a4) := (top_stage ..).trans (by kernel_rfl)
theorem divide_limbs_back_eq (x0 : List Int) (x1 : Int) : divide_limbs_back x0 x1 = cond (decide (0 ≤ (x0.length : Int)) && (decide ((x0.length : Int) ≤ (x0.length : Int)) && decide (((4 : Nat) : Int) * (x0.length : Int) ≤ 281474976710656))) (divide_limbs_back_1 x0 x1 (x0.length : Int) 0 (List.replicate ((x0.length : Int).toNat) 0)) none := (top_call ..).trans (by kernel_rfl)
theorem divide_limbs_back_1_eq (a1 : List Int) (a2 : Int) (a3 : Int) (a4 : Int) (a5 : List Int) : divide_limbs_back_1 a1 a2 a3 a4 a5 = cond (decide (a4 < a3)) (cond (decide (0 ≤ a4) && decide (a4 < (a1.length : Int))) (cond (decide ((IntKind.i64.wrap (a4 + 1)) < (a1.length : Int))) (cond (decide (0 ≤ (IntKind.i64.wrap (a4 + 1))) && decide ((IntKind.i64.wrap (a4 + 1)) < (a1.length : Int))) (cond (decide (0 ≤ 32)) (divide_limbs_back_2 a1 a2 a4 (bitop .or .u64 (IntKind.u64.wrap (a1.getD a4.toNat 0)) (IntKind.u64.wrap ((IntKind.u64.wrap (a1.getD ((IntKind.i64.wrap (a4 + 1)).toNat) 0)) * 2 ^ min 32 IntKind.u64.bits))) a3 a4 a5) none) none) (divide_limbs_back_2 a1 a2 a4 (IntKind.u64.wrap (a1.getD a4.toNat 0)) a3 a4 a5)) none) (some a5) := (top_stage ..).trans (by kernel_rfl)
theorem divide_limbs_back_2_eq (a1 : List Int) (a2 : Int) (a3 : Int) (a4 : Int) (a5 : Int) (a6 : Int) (a7 : List Int) : divide_limbs_back_2 a1 a2 a3 a4 a5 a6 a7 = cond (decide (0 ≤ a2)) (cond (decide (0 ≤ a3) && decide (a3 < (a7.length : Int))) (divide_limbs_back_1 a1 a2 a5 (IntKind.i64.wrap (a6 + 1)) (a7.set a3.toNat (IntKind.u32.wrap (a4.fdiv (2 ^ min a2.toNat IntKind.u64.bits))))) none) none := (top_stage ..).trans (by kernel_rfl)
theorem value_Name_eq (x0 : Int) : value_Name x0 = value_Name_1 x0 := (top_call ..).trans (by kernel_rfl)
theorem value_Name_1_eq (a1 : Int) : value_Name_1 a1 = cond (decide (a1 < 0)) (value_Name_2 a1 true ([] : List UInt8) ([35, 68, 73, 86, 47, 48, 33] : List UInt8) ([35, 86, 65, 76, 85, 69, 33] : List UInt8) ([35, 82, 69, 70, 33] : List UInt8) ([35, 78, 65, 77, 69, 63] : List UInt8) ([35, 78, 85, 77, 33] : List UInt8) ([35, 78, 47, 65] : List UInt8) ([35, 67, 73, 82, 67, 33] : List UInt8)) (value_Name_2 a1 (decide (a1 ≥ 8)) ([] : List UInt8) ([35, 68, 73, 86, 47, 48, 33] : List UInt8) ([35, 86, 65, 76, 85, 69, 33] : List UInt8) ([35, 82, 69, 70, 33] : List UInt8) ([35, 78, 65, 77, 69, 63] : List UInt8) ([35, 78, 85, 77, 33] : List UInt8) ([35, 78, 47, 65] : List UInt8) ([35, 67, 73, 82, 67, 33] : List UInt8)) := (top_stage ..).trans (by kernel_rfl)
theorem value_Name_2_eq (a1 : Int) (a2 : Bool) (a3 : List UInt8) (a4 : List UInt8) (a5 : List UInt8) (a6 : List UInt8) (a7 : List UInt8) (a8 : List UInt8) (a9 : List UInt8) (a10 : List UInt8) : value_Name_2 a1 a2 a3 a4 a5 a6 a7 a8 a9 a10 = cond a2 (some ([] : List UInt8)) (cond (decide (0 ≤ a1) && decide (a1 < (8 : Int))) (some (([a3, a4, a5, a6, a7, a8, a9, a10] : List (List UInt8)).getD a1.toNat [])) none) := (top_stage ..).trans (by kernel_rfl)
end Go.Proofs.YtenebjaipfcflaaDoor.C

/- Naturals as texts of bytes and as limbs: plain Lean, no program. -/
set_option linter.unusedVariables false
set_option linter.unusedSimpArgs false
namespace Go.Proofs.YtenebjaipfcflaaDoor.P
open Go

/-! ### a list of bytes, the highest first, as a number -/
def valL (l : List Nat) : Nat := l.foldl (fun n b => n * 256 + b) 0
theorem foldl_val (l : List Nat) (n : Nat) : l.foldl (fun n b => n * 256 + b) n = n * 256 ^ l.length + valL l := by
  unfold valL
  induction l generalizing n with
  | nil => simp
  | cons a l ih =>
    simp only [List.foldl_cons, List.length_cons]
    rw [ih (n * 256 + a), ih (0 * 256 + a), Nat.pow_succ]
    simp only [Nat.zero_mul, Nat.zero_add, Nat.add_mul]
    rw [Nat.mul_assoc, Nat.mul_comm 256, Nat.add_assoc]
theorem valL_append (a b : List Nat) : valL (a ++ b) = valL a * 256 ^ b.length + valL b := by
  conv => lhs; unfold valL
  rw [List.foldl_append, foldl_val]
  rfl
theorem valL_snoc (a : List Nat) (b : Nat) : valL (a ++ [b]) = valL a * 256 + b := by rw [valL_append]; simp [valL]
theorem valL_cons (b : Nat) (l : List Nat) : valL (b :: l) = b * 256 ^ l.length + valL l := by
  have := valL_append [b] l
  simpa [valL] using this
theorem valL_lt (l : List Nat) (h : ∀ b ∈ l, b < 256) : valL l < 256 ^ l.length := by
  induction l with
  | nil => simp [valL]
  | cons a l ih =>
    rw [valL_cons, List.length_cons, Nat.pow_succ]
    have h1 := ih (fun b hb => h b (List.mem_cons_of_mem _ hb))
    have h2 := h a (List.mem_cons_self ..)
    have h3 : a * 256 ^ l.length ≤ 255 * 256 ^ l.length := Nat.mul_le_mul_right _ (by omega)
    omega

def digsF : Nat → Nat → List Nat
  | 0, _ => []
  | f + 1, n => if n = 0 then [] else digsF f (n / 256) ++ [n % 256]
/-- A number's bytes, none of them a 0 ahead. -/
def digs (n : Nat) : List Nat := digsF n n
theorem digsF_eq : ∀ (f g n : Nat), n ≤ f → n ≤ g → digsF f n = digsF g n
  | 0, g, n, h1, h2 => by
    obtain rfl : n = 0 := by omega
    cases g <;> simp [digsF]
  | f + 1, 0, n, h1, h2 => by
    obtain rfl : n = 0 := by omega
    simp [digsF]
  | f + 1, g + 1, n, h1, h2 => by
    by_cases h : n = 0
    · subst h; simp [digsF]
    · rw [digsF, digsF, if_neg h, if_neg h, digsF_eq f g (n / 256) (by omega) (by omega)]
theorem digs_zero : digs 0 = [] := rfl
theorem digs_pos {n : Nat} (h : n ≠ 0) : digs n = digs (n / 256) ++ [n % 256] := by
  obtain ⟨m, rfl⟩ : ∃ m, n = m + 1 := ⟨n - 1, by omega⟩
  conv => lhs; unfold digs
  rw [digsF, if_neg h, digsF_eq m ((m + 1) / 256) _ (by omega) (Nat.le_refl _)]; rfl
theorem digs_lt (n : Nat) : ∀ b ∈ digs n, b < 256 := by
  induction n using Nat.strongRecOn with
  | _ n ih =>
    by_cases h : n = 0
    · subst h; simp [digs_zero]
    · rw [digs_pos h]
      intro b hb
      rcases List.mem_append.1 hb with hb | hb
      · exact ih (n / 256) (by omega) b hb
      · simp at hb; omega
theorem val_digs (n : Nat) : valL (digs n) = n := by
  induction n using Nat.strongRecOn with
  | _ n ih =>
    by_cases h : n = 0
    · subst h; simp [digs_zero, valL]
    · rw [digs_pos h, valL_snoc, ih (n / 256) (by omega)]; omega
theorem digs_head (n : Nat) : ∀ b l, digs n = b :: l → b ≠ 0 := by
  induction n using Nat.strongRecOn with
  | _ n ih =>
    intro b l e
    by_cases h : n = 0
    · subst h; simp [digs_zero] at e
    · rw [digs_pos h] at e
      by_cases h2 : n / 256 = 0
      · rw [h2, digs_zero] at e
        simp at e
        omega
      · cases hd : digs (n / 256) with
        | nil => exact absurd (by rw [← val_digs (n / 256), hd]; rfl) h2
        | cons c l2 =>
          rw [hd] at e
          simp at e
          rw [← e.1]
          exact ih (n / 256) (by omega) c l2 hd
/-- Bytes 0 ahead fall away. -/
def trimL : List Nat → List Nat
  | [] => []
  | b :: l => if b = 0 then trimL l else b :: l
theorem snoc_ind {P : List Nat → Prop} (h0 : P []) (h1 : ∀ l b, P l → P (l ++ [b])) : ∀ l, P l := by
  intro l
  have : P l.reverse.reverse := by
    induction l.reverse with
    | nil => exact h0
    | cons b l ih => rw [List.reverse_cons]; exact h1 _ _ ih
  rwa [List.reverse_reverse] at this
theorem digs_val (l : List Nat) (h : ∀ b ∈ l, b < 256) : digs (valL l) = trimL l := by
  revert h
  refine snoc_ind (P := fun l => (∀ b ∈ l, b < 256) → digs (valL l) = trimL l) ?_ ?_ l
  · intro _; simp [valL, digs_zero, trimL]
  · intro l b ih h
    have hb : b < 256 := h b (by simp)
    have h' : ∀ x ∈ l, x < 256 := fun x hx => h x (by simp [hx])
    rw [valL_snoc]
    have key : ∀ l : List Nat, trimL (l ++ [b]) = if trimL l = [] then (if b = 0 then [] else [b]) else trimL l ++ [b] := by
      intro l
      induction l with
      | nil => simp [trimL]
      | cons a l ih =>
        simp only [List.cons_append, trimL]
        split
        · exact ih
        · simp
    rw [key]
    by_cases hz : valL l = 0
    · have ht : trimL l = [] := by rw [← ih h', hz, digs_zero]
      rw [hz, ht]
      simp only [Nat.zero_mul, Nat.zero_add, if_true]
      by_cases hb0 : b = 0
      · subst hb0; simp [digs_zero]
      · rw [digs_pos hb0, show b / 256 = 0 by omega, digs_zero, if_neg hb0, show b % 256 = b by omega]; rfl
    · have ht : trimL l ≠ [] := by
        rw [← ih h']
        intro e
        have := val_digs (valL l)
        rw [e] at this
        exact hz this.symm
      rw [if_neg ht, digs_pos (by omega), show (valL l * 256 + b) / 256 = valL l by omega, show (valL l * 256 + b) % 256 = b by omega, ih h']
theorem digs_length_le {n k : Nat} (h : n < 256 ^ k) : (digs n).length ≤ k := by
  induction k generalizing n with
  | zero => have : n = 0 := by simpa using h
            subst this; simp [digs_zero]
  | succ k ih =>
    by_cases h0 : n = 0
    · subst h0; simp [digs_zero]
    · rw [digs_pos h0, List.length_append]
      have := ih (n := n / 256) (by rw [Nat.pow_succ] at h; omega)
      simp; omega
/-! ### texts -/
def L (s : List UInt8) : List Nat := s.map UInt8.toNat
theorem L_length (s : List UInt8) : (L s).length = s.length := by simp [L]
theorem L_lt (s : List UInt8) : ∀ b ∈ L s, b < 256 := by
  intro b hb
  obtain ⟨u, _, rfl⟩ := List.mem_map.1 hb
  exact u.toNat_lt
theorem L_inj {s t : List UInt8} (h : L s = L t) : s = t := (List.map_inj_right (fun a b h => UInt8.toNat_inj.1 h)).1 h
theorem L_append (s t : List UInt8) : L (s ++ t) = L s ++ L t := by simp [L]
/-- The text of a natural, and the natural of a text. -/
def nat (n : Nat) : List UInt8 := (digs n).map UInt8.ofNat
def val (s : List UInt8) : Nat := valL (L s)
theorem L_nat (n : Nat) : L (nat n) = digs n := by
  unfold L nat
  rw [List.map_map]
  conv => rhs; rw [← List.map_id (digs n)]
  apply List.map_congr_left
  intro b hb
  have := digs_lt n b hb
  simp only [Function.comp, id]
  exact UInt8.toNat_ofNat_of_lt' this
theorem val_nat (n : Nat) : val (nat n) = n := by unfold val; rw [L_nat, val_digs]
theorem nat_inj {m n : Nat} : nat m = nat n ↔ m = n := ⟨fun h => by rw [← val_nat m, h, val_nat], fun h => by rw [h]⟩
theorem L_trim (s : List UInt8) : L (nat (val s)) = trimL (L s) := by rw [L_nat]; exact digs_val _ (L_lt s)
theorem nat_length (n : Nat) : (nat n).length = (digs n).length := by rw [← L_length, L_nat]
theorem nat_length_le {n k : Nat} (h : n < 256 ^ k) : (nat n).length ≤ k := by rw [nat_length]; exact digs_length_le h
theorem val_lt (s : List UInt8) : val s < 256 ^ s.length := by
  have := valL_lt (L s) (L_lt s)
  rwa [L_length] at this
theorem nat_val_length (s : List UInt8) : (nat (val s)).length ≤ s.length := nat_length_le (val_lt s)
theorem nat_zero : nat 0 = [] := by unfold nat; rw [digs_zero]; rfl
theorem nat_eq_nil {n : Nat} : nat n = [] ↔ n = 0 := by rw [← nat_zero, nat_inj]
theorem val_nil : val [] = 0 := rfl
theorem val_append (s t : List UInt8) : val (s ++ t) = val s * 256 ^ t.length + val t := by unfold val; rw [L_append, valL_append, L_length]
theorem val_cons (b : UInt8) (s : List UInt8) : val (b :: s) = b.toNat * 256 ^ s.length + val s := by
  show valL (b.toNat :: L s) = _
  rw [valL_cons, L_length]; rfl
theorem val_snoc (s : List UInt8) (b : UInt8) : val (s ++ [b]) = val s * 256 + b.toNat := by
  rw [val_append]; simp [val_cons, val_nil]
theorem trim_fix {s : List UInt8} (h : ∀ b l, s = b :: l → b ≠ 0) : nat (val s) = s := by
  apply L_inj
  rw [L_trim]
  cases s with
  | nil => rfl
  | cons b l =>
    have : b.toNat ≠ 0 := fun e => h b l rfl (UInt8.toNat_inj.1 e)
    simp [L, trimL, this]
theorem trimB (s : List UInt8) : Lib.trimLeftB s 0 = nat (val s) := by
  apply L_inj
  rw [L_trim]
  unfold Lib.trimLeftB
  induction s with
  | nil => rfl
  | cons b s ih =>
    rw [List.dropWhile_cons]
    by_cases h : b = 0
    · subst h
      simp only [L, List.map_cons, trimL] at ih ⊢
      simpa using ih
    · have hb : b.toNat ≠ 0 := fun e => h (UInt8.toNat_inj.1 e)
      simp [L, trimL, h, hb]
theorem nat_head (n : Nat) (b : UInt8) (l : List UInt8) (h : nat n = b :: l) : b ≠ 0 := by
  intro e
  have h1 := L_nat n
  rw [h, e] at h1
  exact digs_head n 0 (L l) h1.symm rfl
def W (B : Nat) : List Int → Nat
  | [] => 0
  | a :: l => a.toNat + B * W B l
def Ok (B : Nat) (l : List Int) : Prop := ∀ x ∈ l, 0 ≤ x ∧ x < (B : Int)
theorem Ok.nil (B : Nat) : Ok B [] := fun x h => by cases h
theorem Ok.cons {B : Nat} {a : Int} {l : List Int} (h0 : 0 ≤ a) (h1 : a < (B : Int)) (h : Ok B l) : Ok B (a :: l) := by
  intro x hx
  rcases List.mem_cons.1 hx with rfl | hx
  · exact ⟨h0, h1⟩
  · exact h x hx
theorem Ok.append {B : Nat} {l m : List Int} (h : Ok B l) (k : Ok B m) : Ok B (l ++ m) := by
  intro x hx
  rcases List.mem_append.1 hx with hx | hx
  · exact h x hx
  · exact k x hx
theorem Ok.snoc {B : Nat} {l : List Int} {a : Int} (h : Ok B l) (h0 : 0 ≤ a) (h1 : a < (B : Int)) : Ok B (l ++ [a]) := h.append ((Ok.nil B).cons h0 h1)
theorem Ok.take {B : Nat} {l : List Int} (h : Ok B l) (i : Nat) : Ok B (l.take i) := fun x hx => h x (List.mem_of_mem_take hx)
theorem Ok.set {B : Nat} {l : List Int} {a : Int} (h : Ok B l) (p : Nat) (h0 : 0 ≤ a) (h1 : a < (B : Int)) : Ok B (l.set p a) := by
  intro x hx
  rcases List.mem_or_eq_of_mem_set hx with hx | rfl
  · exact h x hx
  · exact ⟨h0, h1⟩
theorem Ok.zeros {B : Nat} (hB : 0 < B) (n : Nat) : Ok B (List.replicate n 0) := by
  intro x hx
  have := (List.mem_replicate.1 hx).2
  subst this
  omega
theorem Ok.getD {B : Nat} {l : List Int} (hB : 0 < B) (h : Ok B l) (i : Nat) : 0 ≤ l.getD i 0 ∧ l.getD i 0 < (B : Int) := by
  by_cases hi : i < l.length
  · rw [List.getD_eq_getElem?_getD, List.getElem?_eq_getElem hi]
    exact h _ (List.getElem_mem hi)
  · rw [List.getD_eq_getElem?_getD, List.getElem?_eq_none (by omega)]
    simp; omega
theorem W_append (B : Nat) (a b : List Int) : W B (a ++ b) = W B a + B ^ a.length * W B b := by
  induction a with
  | nil => simp [W]
  | cons x a ih =>
    simp only [List.cons_append, W, ih, List.length_cons, Nat.pow_succ]
    grind
theorem W_snoc (B : Nat) (a : List Int) (x : Int) : W B (a ++ [x]) = W B a + B ^ a.length * x.toNat := by rw [W_append]; simp [W]
theorem W_lt {B : Nat} {l : List Int} (h : Ok B l) : W B l < B ^ l.length := by
  induction l with
  | nil => simp [W]
  | cons a l ih =>
    have h1 := ih (fun x hx => h x (List.mem_cons_of_mem _ hx))
    have h2 := h a (List.mem_cons_self ..)
    rw [W, List.length_cons, Nat.pow_succ]
    have h3 : a.toNat < B := by omega
    have h4 : B * (W B l + 1) ≤ B * B ^ l.length := Nat.mul_le_mul_left _ (by omega)
    rw [Nat.mul_add, Nat.mul_comm B (B ^ l.length)] at h4
    omega
theorem W_zeros (B n : Nat) : W B (List.replicate n 0) = 0 := by
  induction n with
  | zero => rfl
  | succ n ih => rw [List.replicate_succ, W, ih]; simp
theorem take_succ' (l : List Int) (i : Nat) (h : i < l.length) : l.take (i + 1) = l.take i ++ [l.getD i 0] := by
  rw [List.take_add_one, List.getD_eq_getElem?_getD, List.getElem?_eq_getElem h]
  rfl
theorem W_take (B : Nat) (l : List Int) (i : Nat) : W B (l.take (i + 1)) = W B (l.take i) + B ^ i * (l.getD i 0).toNat := by
  by_cases h : i < l.length
  · rw [take_succ' l i h, W_snoc, List.length_take, Nat.min_eq_left (by omega)]
  · rw [List.take_of_length_le (by omega), List.take_of_length_le (by omega), List.getD_eq_getElem?_getD, List.getElem?_eq_none (by omega)]
    simp
theorem W_all (B : Nat) (l : List Int) (i : Nat) (h : l.length ≤ i) : W B (l.take i) = W B l := by rw [List.take_of_length_le h]
theorem W_set (B : Nat) (l : List Int) (p : Nat) (v : Int) (h : p < l.length) : W B (l.set p v) + B ^ p * (l.getD p 0).toNat = W B l + B ^ p * v.toNat := by
  induction l generalizing p with
  | nil => simp at h
  | cons a l ih =>
    cases p with
    | zero => simp [W]; omega
    | succ p =>
      have := ih p (by simpa using h)
      simp only [List.set_cons_succ, W, List.getD_cons_succ, Nat.pow_succ]
      grind
theorem W_split (B : Nat) (l : List Int) (i : Nat) (h : i ≤ l.length) : W B l = W B (l.take i) + B ^ i * W B (l.drop i) := by
  conv => lhs; rw [← List.take_append_drop i l]
  rw [W_append, List.length_take, Nat.min_eq_left h]
theorem getD_set_ne (l : List Int) (p j : Nat) (v : Int) (h : p ≠ j) : (l.set p v).getD j 0 = l.getD j 0 := by
  rw [List.getD_eq_getElem?_getD, List.getElem?_set_ne h, List.getD_eq_getElem?_getD]
theorem getD_set_self (l : List Int) (p : Nat) (v : Int) (h : p < l.length) : (l.set p v).getD p 0 = v := by
  rw [List.getD_eq_getElem?_getD, List.getElem?_set_self h]; rfl

/-! ### limbs -/
def limbs (n : Nat) : List Int := if h : n = 0 then [] else ((n % 4294967296 : Nat) : Int) :: limbs (n / 4294967296)
termination_by n
decreasing_by omega
theorem limbs_zero : limbs 0 = [] := by rw [limbs]; simp
theorem limbs_pos {n : Nat} (h : n ≠ 0) : limbs n = ((n % 4294967296 : Nat) : Int) :: limbs (n / 4294967296) := by rw [limbs]; simp [h]
def cutW : List Int → List Int
  | [] => []
  | a :: l => if cutW l = [] then (if a = 0 then [] else [a]) else a :: cutW l
theorem cutW_snoc (l : List Int) (a : Int) (h : a ≠ 0) : cutW (l ++ [a]) = l ++ [a] := by
  induction l with
  | nil => simp [cutW, h]
  | cons b l ih => simp only [List.cons_append, cutW, ih]; simp
theorem cutW_limbs {l : List Int} (h : Ok 4294967296 l) : cutW l = limbs (W 4294967296 l) := by
  induction l with
  | nil => simp [cutW, W, limbs_zero]
  | cons a l ih =>
    have ha := h a (List.mem_cons_self ..)
    have ih := ih (fun x hx => h x (List.mem_cons_of_mem _ hx))
    rw [cutW, W, ih]
    by_cases hz : W 4294967296 l = 0
    · rw [hz, limbs_zero]
      simp only [if_true]
      by_cases h0 : a = 0
      · subst h0; simp [limbs_zero]
      · rw [if_neg h0, limbs_pos (by omega), show (a.toNat + 4294967296 * 0) / 4294967296 = 0 by omega, limbs_zero]
        congr 1
        omega
    · have hn : limbs (W 4294967296 l) ≠ [] := by rw [limbs_pos hz]; simp
      rw [if_neg hn]
      rw [limbs_pos (n := a.toNat + 4294967296 * W 4294967296 l) (by omega), show (a.toNat + 4294967296 * W 4294967296 l) / 4294967296 = W 4294967296 l by omega]
      congr 1
      omega
theorem limbs_ok (n : Nat) : Ok 4294967296 (limbs n) := by
  induction n using Nat.strongRecOn with
  | _ n ih =>
    by_cases h : n = 0
    · subst h; rw [limbs_zero]; exact Ok.nil _
    · rw [limbs_pos h]
      exact (ih (n / 4294967296) (by omega)).cons (by omega) (by omega)
theorem W_limbs (n : Nat) : W 4294967296 (limbs n) = n := by
  induction n using Nat.strongRecOn with
  | _ n ih =>
    by_cases h : n = 0
    · subst h; rw [limbs_zero]; rfl
    · rw [limbs_pos h, W, ih (n / 4294967296) (by omega)]
      omega
theorem limbs_getD (n i : Nat) : (limbs n).getD i 0 = ((n / 4294967296 ^ i % 4294967296 : Nat) : Int) := by
  induction i generalizing n with
  | zero =>
    by_cases h : n = 0
    · subst h; simp [limbs_zero]
    · rw [limbs_pos h]; simp
  | succ i ih =>
    by_cases h : n = 0
    · subst h; simp [limbs_zero]
    · rw [limbs_pos h, List.getD_cons_succ, ih, Nat.pow_succ, Nat.mul_comm, Nat.div_div_eq_div_mul]
theorem lt_limbs (n : Nat) : n < 4294967296 ^ (limbs n).length := by
  have := W_lt (limbs_ok n)
  rwa [W_limbs] at this
theorem limbs_le {n k : Nat} (h : n < 4294967296 ^ k) : (limbs n).length ≤ k := by
  induction k generalizing n with
  | zero => have : n = 0 := by simpa using h
            subst this; simp [limbs_zero]
  | succ k ih =>
    by_cases h0 : n = 0
    · subst h0; simp [limbs_zero]
    · rw [limbs_pos h0, List.length_cons]
      have := ih (n := n / 4294967296) (by rw [Nat.pow_succ] at h; omega)
      omega
theorem limbs_low {n : Nat} (h : n ≠ 0) : 4294967296 ^ ((limbs n).length - 1) ≤ n := by
  apply Classical.byContradiction
  intro hn
  have h1 := limbs_le (n := n) (k := (limbs n).length - 1) (by omega)
  have h2 : (limbs n).length ≠ 0 := by rw [limbs_pos h]; simp
  omega
theorem limbs_nil {n : Nat} : (limbs n).length = 0 ↔ n = 0 := by
  constructor
  · intro h
    have := lt_limbs n
    rw [h] at this
    simpa using this
  · rintro rfl; rw [limbs_zero]; rfl
theorem pow_32 (k : Nat) : 4294967296 ^ k = 256 ^ (4 * k) := by rw [show (4294967296 : Nat) = 256 ^ 4 by decide, ← Nat.pow_mul]
theorem limbs_size {n k : Nat} (h : n < 256 ^ k) : (limbs n).length ≤ (k + 3) / 4 := by
  apply limbs_le
  rw [pow_32]
  exact Nat.lt_of_lt_of_le h (Nat.pow_le_pow_right (by decide) (by omega))
theorem limbs_val (s : List UInt8) : (limbs (val s)).length ≤ (s.length + 3) / 4 := limbs_size (val_lt s)
/-! ### a text's bytes, the lowest first -/
def R (s : List UInt8) : List Int := ((L s).map fun b : Nat => (b : Int)).reverse
def blen (n : Nat) : Nat := if h : n = 0 then 0 else blen (n / 2) + 1
termination_by n
decreasing_by omega
theorem blen_zero : blen 0 = 0 := by rw [blen]; simp
theorem blen_pos {n : Nat} (h : n ≠ 0) : blen n = blen (n / 2) + 1 := by rw [blen]; simp [h]
theorem bitLen_blen (n : Nat) : n < 2 ^ 64 → Lib.bitLen n = blen n := by
  induction n using Nat.strongRecOn with
  | _ n ih =>
    intro hn
    by_cases h : n = 0
    · subst h; rw [blen_zero]; exact Lib.bitLenAux_zero _
    · rw [Lib.bitLen_half n h hn, blen_pos h, ih (n / 2) (by omega) (by omega)]
      omega
theorem blen_le (n : Nat) (h : n < 2 ^ 32) : blen n ≤ 32 := by
  rw [← bitLen_blen n (by omega)]; exact Lib.bitLen_le n 32 (by decide) h
theorem limbs_len_lt {a b : Nat} (h : (limbs a).length < (limbs b).length) : a < b := by
  have h1 := lt_limbs a
  have hb : b ≠ 0 := by rintro rfl; rw [limbs_zero] at h; simp at h
  have h2 := limbs_low hb
  have h3 : 4294967296 ^ (limbs a).length ≤ 4294967296 ^ ((limbs b).length - 1) := Nat.pow_le_pow_right (by decide) (by omega)
  omega
theorem add_step (P B w c a a' x y q r : Nat) (h : w + P * c = x + y) (hv : a + a' + c = B * q + r) : (w + P * r) + P * B * q = (x + P * a) + (y + P * a') := by
  have : P * (a + a' + c) = P * (B * q + r) := by rw [hv]
  grind
theorem mul_step (B P w w' x m c a b y q r Pi Pj : Nat) (h : w + P * c = x + a * Pi * m) (hp : P = Pi * Pj) (hset : w' + P * y = w + P * r) (hv : a * b + y + c = B * q + r) :
    w' + P * B * q = x + a * Pi * (m + Pj * b) := by
  subst hp
  have : Pi * Pj * (a * b + y + c) = Pi * Pj * (B * q + r) := by rw [hv]
  have h2 : w' + Pi * Pj * B * q + Pi * Pj * y + Pi * Pj * c = x + a * Pi * (m + Pj * b) + Pi * Pj * y + Pi * Pj * c := by grind
  omega
theorem le_mul_pred {a b B : Nat} (ha : a < B) (hb : b < B) : a * b + 2 * B ≤ B * B + 1 := by
  obtain ⟨x, rfl⟩ : ∃ x, B = a + 1 + x := ⟨B - (a + 1), by omega⟩
  obtain ⟨y, hy⟩ : ∃ y, a + 1 + x = b + 1 + y := ⟨a + 1 + x - (b + 1), by omega⟩
  have h1 : a * b ≤ (a + x) * (b + y) := Nat.mul_le_mul (by omega) (by omega)
  have h2 : b + y = a + x := by omega
  rw [h2] at h1
  have h3 : (a + 1 + x) * (a + 1 + x) = (a + x) * (a + x) + 2 * (a + x) + 1 := by grind
  omega
theorem W_set' (B : Nat) (l : List Int) (p : Nat) (v : Nat) (h : p < l.length) : W B (l.set p (v : Int)) + B ^ p * (l.getD p 0).toNat = W B l + B ^ p * v := W_set B l p v h
end Go.Proofs.YtenebjaipfcflaaDoor.P

/- The program's naturals (nat): what each function answers. -/
set_option linter.unusedVariables false
set_option linter.unusedSimpArgs false
namespace Go.Proofs.YtenebjaipfcflaaDoor.P
open Go Go.Proofs.YtenebjaipfcflaaDoor.K Go.Proofs.YtenebjaipfcflaaDoor.C
/-! ### words of the machine -/
theorem wS {i : Nat} (h : i + 1 ≤ 9223372036854775807) : IntKind.i64.wrap ((i : Int) + 1) = ((i + 1 : Nat) : Int) := wrap64 (by omega) (by omega)
theorem wA {a b : Nat} (h : a + b ≤ 9223372036854775807) : IntKind.i64.wrap ((a : Int) + (b : Int)) = ((a + b : Nat) : Int) := by rw [wrap64 (by omega) (by omega)]; omega
theorem wD {a b : Nat} (h : b ≤ a) (h' : a ≤ 9223372036854775807) : IntKind.i64.wrap ((a : Int) - (b : Int)) = ((a - b : Nat) : Int) := by rw [wrap64 (by omega) (by omega)]; omega
theorem wraps_u32 (n : Int) (h₀ : 0 ≤ n) (h₁ : n < 2 ^ 32) : IntKind.u32.wrap n = n := wrapU32 h₀ (by omega)
theorem wraps_u64 (n : Int) (h₀ : 0 ≤ n) (h₁ : n < 2 ^ 64) : IntKind.u64.wrap n = n := wrapU64 h₀ (by omega)
theorem wraps_i64 (n : Int) (h₀ : 0 ≤ n) (h₁ : n < 2 ^ 63) : IntKind.i64.wrap n = n := wrap64 (by omega) (by omega)
theorem mod_u32 (n : Int) : IntKind.u32.wrap n = n % 4294967296 := by simp [IntKind.wrap, IntKind.bits, IntKind.signed]
theorem mod_u64 (n : Int) : IntKind.u64.wrap n = n % 18446744073709551616 := by simp [IntKind.wrap, IntKind.bits, IntKind.signed]
theorem bitop_or (k : IntKind) (x y : Int) : bitop .or k x y = Go.bits .or k x y := rfl
theorem or_u32 (x y : Int) (h0 : 0 ≤ x) (h1 : x < 16777216) (h2 : 0 ≤ y) (h3 : y < 256) : bitop .or .u32 (IntKind.u32.wrap (x * 2 ^ min 8 IntKind.u32.bits)) (IntKind.u32.wrap y) = x * 256 + y := by
  rw [show (2 : Int) ^ min 8 IntKind.u32.bits = 256 from rfl, wrapU32 (by omega) (by omega), wrapU32 (by omega) (by omega)]
  exact bits_join .u32 32 (by decide) wraps_u32 8 (x * 256) y (by omega) (by omega) (by omega) h2 (by omega) (by omega)
theorem or_u64 (x y : Int) (i : Nat) (h0 : 0 ≤ x) (hx : x % 2 ^ i = 0) (h1 : x < 18446744073709551616) (h2 : 0 ≤ y) (h3 : y < 2 ^ i) (h4 : y < 18446744073709551616) : bitop .or .u64 x y = x + y :=
  bits_join .u64 64 (by decide) wraps_u64 i x y h0 hx (by omega) h2 h3 (by omega)
theorem and_u64w (x : Int) (h0 : 0 ≤ x) (h1 : x < 18446744073709551616) : bitop .and .u64 x 4294967295 = x % 4294967296 :=
  bits_mask .u64 64 (by decide) wraps_u64 32 (by decide) x h0 (by omega)
theorem p32 : (2 : Int) ^ min 32 IntKind.u64.bits = 4294967296 := rfl
theorem fd {a : Int} {b : Int} (hb : 0 < b) : a.fdiv b = a / b := Int.fdiv_eq_ediv_of_nonneg a (by omega)
theorem room (n m k : Nat) (h : (n + m) * k ≤ 140737488355328) : Nat.ble ((n + m) * k) 140737488355328 = true := Nat.ble_eq_true_of_le h
theorem inC {a b : Nat} (h : a ≤ b) : (decide (0 ≤ (a : Int)) && decide ((a : Int) ≤ (b : Int))) = true := by simp; omega
/-! ### nat -/
theorem natTrim (s : List UInt8) : nat_Trim s = some (nat (val s)) := by
  rw [nat_Trim_eq, show strings_TrimLeft s [0] = some (Lib.trimLeftB s 0) from (top_call ..).trans rfl, trimB]; rfl
theorem natCut1 : ∀ (n : Nat) (l : List Int), l.length = n → l.length ≤ 9223372036854775807 → Ok 4294967296 l → nat_limbs_cut_1 l = some (limbs (W 4294967296 l))
  | 0, l, h, _, _ => by
    obtain rfl : l = [] := List.eq_nil_of_length_eq_zero h
    rw [nat_limbs_cut_1_eq, decide_eq_false (by simp), cond_false, nat_limbs_cut_2_eq, W, limbs_zero]; rfl
  | n + 1, l, h, hl, ho => by
    obtain ⟨a, x, rfl⟩ : ∃ a x, l = a ++ [x] := ⟨l.dropLast, l.getLast (by rintro rfl; simp at h), (List.dropLast_concat_getLast _).symm⟩
    have ha : a.length = n := by simpa using h
    have hw : IntKind.i64.wrap ((((a ++ [x] : List Int).length : Nat) : Int) - 1) = (n : Int) := by rw [show ((((a ++ [x] : List Int).length : Nat) : Int) - 1) = (n : Int) by simp [ha]]; exact wrap64 (by omega) (by simp at hl; omega)
    have oa : Ok 4294967296 a := fun y hy => ho y (by simp [hy])
    have ox := ho x (by simp)
    rw [nat_limbs_cut_1_eq, decide_eq_true (show (((a ++ [x]).length : Nat) : Int) > 0 by rw [h]; omega), cond_true, hw, show (decide (0 ≤ (n : Int)) && decide ((n : Int) < ((a ++ [x]).length : Int))) = true by simp [ha]; omega, cond_true, Int.toNat_natCast,
      show (a ++ [x]).getD n 0 = x by rw [← ha]; simp, nat_limbs_cut_2_eq, hw, show (decide (0 ≤ (n : Int)) && decide ((n : Int) ≤ ((a ++ [x]).length : Int))) = true by simp [ha]; omega, cond_true, Int.toNat_natCast,
      show (a ++ [x]).take n = a by rw [← ha]; simp]
    by_cases hx : x = 0
    · subst hx
      rw [decide_eq_true rfl, cond_true, natCut1 n a ha (by simp at hl; omega) oa, W_snoc]
      simp
    · rw [decide_eq_false hx, cond_false, ← cutW_limbs ho, cutW_snoc a x hx]
theorem natCut (l : List Int) (hl : l.length ≤ 9223372036854775807) (ho : Ok 4294967296 l) : nat_limbs_cut l = some (limbs (W 4294967296 l)) := (nat_limbs_cut_eq l).trans (natCut1 _ l rfl hl ho)
theorem cutZ_limbs {l : List Int} (ho : Ok 4294967296 l) : H.cutZ l = limbs (W 4294967296 l) := by
  rw [← cutW_limbs ho]
  clear ho
  induction l with
  | nil => rfl
  | cons a l ih =>
    rw [H.cutZ, cutW, ih]
    cases cutW l with
    | nil => by_cases h : a = 0 <;> simp [h]
    | cons b m => simp
theorem be4_ok (l : List Int) (h : Ok 4294967296 l) : val (bytesOf (H.be4 l.reverse)) = W 4294967296 l := by
  induction l with
  | nil => rfl
  | cons a l ih =>
    have ha := h a (List.mem_cons_self ..)
    have ih := ih (fun x hx => h x (List.mem_cons_of_mem _ hx))
    have e : bytesOf (H.be4 (a :: l).reverse) = bytesOf (H.be4 l.reverse) ++ bytesOf [a / 16777216 % 256, a / 65536 % 256, a / 256 % 256, a % 256] := by
      rw [List.reverse_cons, H.HtextNat.be4_snoc]; simp [bytesOf]
    have b1 : ∀ x : Int, (UInt8.ofNat (x % 256).toNat).toNat = (x % 256).toNat := fun x => UInt8.toNat_ofNat_of_lt' (by show _ < 256; omega)
    rw [e, val_append, ih, W]
    simp only [bytesOf, List.map_cons, List.map_nil, val_cons, val_nil, List.length_cons, List.length_nil, b1]
    omega
theorem natText (l : List Int) (hl : l.length ≤ 1099511627776) (ho : Ok 4294967296 l) : nat_limbs_text l = some (nat (W 4294967296 l)) := by
  refine (top_call ..).trans ?_
  show H.textF l = _
  have h1 := limbs_le (W_lt ho)
  unfold H.textF
  rw [cutZ_limbs ho, show (decide (l.length ≤ 9223372036854775807) && decide ((limbs (W 4294967296 l)).length * 4 ≤ 140737488355328)) = true by simp; omega, cond_true, trimB, be4_ok _ (limbs_ok _), W_limbs]
/-- The digits of a text, four bytes at a time. -/
theorem natRead2 (s : List UInt8) (fr : Nat) (acc : List Int) (c : List UInt8) (hc : c.length ≤ 4) : ∀ (m i : Nat), i + m = c.length →
    nat_read_2 s (fr : Int) ((val (c.take i) : Nat) : Int) (c.map fun b => (b.toNat : Int)) (c.length : Int) (i : Int) acc = nat_read_2 s (fr : Int) ((val c : Nat) : Int) (c.map fun b => (b.toNat : Int)) (c.length : Int) (c.length : Int) acc
  | 0, i, h => by
    obtain rfl : i = c.length := by omega
    rw [List.take_length]
  | m + 1, i, h => by
    have hi : i < c.length := by omega
    have hv := val_lt (c.take i)
    have hp : 256 ^ (c.take i).length ≤ 256 ^ 3 := Nat.pow_le_pow_right (by decide) (by simp; omega)
    have hb := (c[i]).toNat_lt
    have hg : (c.map fun b => (b.toNat : Int)).getD (i : Int).toNat 0 = ((c[i]).toNat : Int) := by simp [List.getD, hi]
    rw [nat_read_2_eq, decide_eq_true (show (i : Int) < (c.length : Int) by omega), cond_true, show (decide (0 ≤ (i : Int)) && decide ((i : Int) < (((c.map fun b => (b.toNat : Int)).length : Nat) : Int))) = true by rw [List.length_map]; exact ix hi, cond_true, decide_eq_true (by decide), cond_true, hg,
      or_u32 _ _ (by omega) (by omega) (by omega) (by omega), wS (by omega)]
    have e : ((val (c.take i) : Nat) : Int) * 256 + ((c[i]).toNat : Int) = ((val (c.take (i + 1)) : Nat) : Int) := by
      rw [List.take_add_one, List.getElem?_eq_getElem hi]
      simp only [Option.toList_some, val_snoc]
      omega
    rw [e]
    exact natRead2 s fr acc c hc m (i + 1) (by omega)
theorem natRead1 : ∀ (n : Nat) (s : List UInt8) (acc : List Int), s.length ≤ n → s.length + 4 * acc.length ≤ 4398046511104 → Ok 4294967296 acc → (acc ≠ [] → True) →
    nat_read_1 s acc = some (limbs (W 4294967296 acc + 4294967296 ^ acc.length * val s))
  | 0, s, acc, h, hl, ho, _ => by
    obtain rfl : s = [] := List.eq_nil_of_length_eq_zero (by omega)
    rw [nat_read_1_eq, decide_eq_false (by simp), cond_false, natCut acc (by omega) ho, val_nil]
    simp
  | n + 1, s, acc, h, hl, ho, _ => by
    by_cases h0 : s.length = 0
    · obtain rfl : s = [] := List.eq_nil_of_length_eq_zero h0
      rw [nat_read_1_eq, decide_eq_false (by simp), cond_false, natCut acc (by omega) ho, val_nil]
      simp
    · have hw : max 0 (IntKind.i64.wrap ((s.length : Int) - 4)) = ((s.length - 4 : Nat) : Int) := by rw [wrap64 (by omega) (by omega)]; omega
      have hcl : (s.drop (s.length - 4)).length ≤ 4 := by simp; omega
      have hin : (decide (0 ≤ ((s.length - 4 : Nat) : Int)) && decide (((s.length - 4 : Nat) : Int) ≤ (s.length : Int))) = true := inC (by omega)
      have hv := val_lt (s.drop (s.length - 4))
      have hp : 256 ^ (s.drop (s.length - 4)).length ≤ 256 ^ 4 := Nat.pow_le_pow_right (by decide) hcl
      rw [nat_read_1_eq, decide_eq_true (show (s.length : Int) > 0 by omega), cond_true, hw, hin, cond_true, Int.toNat_natCast, List.length_map]
      have hr := natRead2 s (s.length - 4) acc (s.drop (s.length - 4)) hcl _ 0 (Nat.zero_add _)
      rw [List.take_zero, val_nil] at hr
      refine Eq.trans hr ?_
      rw [nat_read_2_eq, decide_eq_false (by omega), cond_false, room _ _ _ (by simp; omega), cond_true, hin, cond_true, Int.toNat_natCast,
        natRead1 n _ _ (by simp; omega) (by simp; omega) (ho.snoc (by omega) (by omega)) (fun _ => trivial)]
      congr 2
      rw [W_snoc, Int.toNat_natCast, List.length_append, List.length_cons, List.length_nil]
      have hs : val s = val (s.take (s.length - 4)) * 256 ^ (s.drop (s.length - 4)).length + val (s.drop (s.length - 4)) := by rw [← val_append, List.take_append_drop]
      rw [hs]
      by_cases h4 : s.length ≤ 4
      · rw [show s.length - 4 = 0 by omega, List.take_zero, val_nil]
        simp
      · rw [show (s.drop (s.length - 4)).length = 4 by simp; omega, Nat.pow_succ, show 256 ^ 4 = 4294967296 by decide]
        generalize 4294967296 ^ acc.length = Q
        rw [Nat.mul_add, Nat.mul_comm (val (s.take (s.length - 4))), Nat.mul_assoc]
        omega
theorem natRead (s : List UInt8) (h : s.length ≤ 4398046511104) : nat_read s = some (limbs (val s)) := by
  rw [nat_read_eq, natRead1 s.length s [] (Nat.le_refl _) (by simpa using h) (Ok.nil _) (fun h => absurd rfl h)]
  simp [W]
theorem natAt (l : List Int) (ho : Ok 4294967296 l) (i : Nat) : nat_limbs_at l (i : Int) = some (l.getD i 0) := by
  rw [nat_limbs_at_eq]
  by_cases h : i < l.length
  · have := ho.getD (by decide) i
    rw [decide_eq_false (by omega), cond_false, ix h, cond_true, Int.toNat_natCast, wrapU64 (by omega) (by omega)]
  · rw [decide_eq_true (by omega), cond_true, List.getD_eq_getElem?_getD, List.getElem?_eq_none (by omega)]; rfl
theorem natOf (n : Nat) (h : n < 18446744073709551616) : nat_Of (n : Int) = some (nat n) := by
  have h1 : IntKind.u32.wrap (n : Int) = ((n % 4294967296 : Nat) : Int) := by rw [mod_u32]; omega
  have h2 : IntKind.u32.wrap ((n : Int).fdiv (2 ^ min 32 IntKind.u64.bits)) = ((n / 4294967296 : Nat) : Int) := by rw [p32, fd (by omega), wrapU32 (by omega) (by omega)]; omega
  rw [nat_Of_eq, decide_eq_true (by decide), cond_true, h1, h2, natText _ (by simp) (((Ok.nil _).cons (by omega) (by omega)).cons (by omega) (by omega))]
  simp only [Option.bind_some, W, Int.toNat_natCast]
  congr 2
  omega
def small (n : Nat) : Int × Bool := if n < 18446744073709551616 then ((n : Int), true) else (0, false)
theorem natSmall (s : List UInt8) (h : s.length ≤ 4398046511104) : nat_Small s = some (small (val s)) := by
  rw [nat_Small_eq, natRead s h, Option.bind_some]
  by_cases h2 : (limbs (val s)).length > 2
  · have : ¬ val s < 18446744073709551616 := fun hh => by
      have := limbs_le (n := val s) (k := 2) (by simpa using hh)
      omega
    rw [decide_eq_true (by omega), cond_true, small, if_neg this]
  · have h3 := lt_limbs (val s)
    have h4 : 4294967296 ^ (limbs (val s)).length ≤ 4294967296 ^ 2 := Nat.pow_le_pow_right (by decide) (by omega)
    have h5 : val s < 18446744073709551616 := by omega
    have a0 : nat_limbs_at (limbs (val s)) 0 = some ((limbs (val s)).getD 0 0) := natAt _ (limbs_ok _) 0
    have a1 : nat_limbs_at (limbs (val s)) 1 = some ((limbs (val s)).getD 1 0) := natAt _ (limbs_ok _) 1
    rw [decide_eq_false (by omega), cond_false, a1, Option.bind_some, decide_eq_true (by decide), cond_true, a0, Option.bind_some, limbs_getD, limbs_getD, p32, small, if_pos h5]
    rw [wrapU64 (by omega) (by omega), or_u64 _ _ 32 (by omega) (by omega) (by omega) (by omega) (by omega) (by omega)]
    congr 2
    simp only [Nat.pow_zero, Nat.pow_one, Nat.div_one]
    omega
end Go.Proofs.YtenebjaipfcflaaDoor.P

/- The reference's naturals (abacistref01): what each function answers. -/
set_option linter.unusedVariables false
set_option linter.unusedSimpArgs false
namespace Go.Proofs.YtenebjaipfcflaaDoor.P
open Go Go.Proofs.YtenebjaipfcflaaDoor.K Go.Proofs.YtenebjaipfcflaaDoor.C
def sgnv (a b : Nat) : Int := if a < b then -1 else if a = b then 0 else 1
theorem val_one (n : Nat) : val [UInt8.ofNat (n % 256)] = n % 256 := by
  rw [val_cons, val_nil, UInt8.toNat_ofNat_of_lt' (by show _ < 256; omega)]; simp
end Go.Proofs.YtenebjaipfcflaaDoor.P

/- The program's naturals: comparing, sums, products. -/
set_option linter.unusedVariables false
set_option linter.unusedSimpArgs false
namespace Go.Proofs.YtenebjaipfcflaaDoor.P
open Go Go.Proofs.YtenebjaipfcflaaDoor.K Go.Proofs.YtenebjaipfcflaaDoor.C
theorem cmpFrom_val (l m : List Int) (hl : Ok 4294967296 l) (hm : Ok 4294967296 m) : ∀ k : Nat, H.cmpFrom l m k = sgnv (W 4294967296 (l.take k)) (W 4294967296 (m.take k))
  | 0 => by simp [H.cmpFrom, W, sgnv]
  | k + 1 => by
    have h1 := hl.getD (by decide) k
    have h2 := hm.getD (by decide) k
    have w1 := W_lt (hl.take k)
    have w2 := W_lt (hm.take k)
    have p1 : 4294967296 ^ (l.take k).length ≤ 4294967296 ^ k := Nat.pow_le_pow_right (by decide) (by simp; omega)
    have p2 : 4294967296 ^ (m.take k).length ≤ 4294967296 ^ k := Nat.pow_le_pow_right (by decide) (by simp; omega)
    have e1 : rd l (k : Int) = l.getD k 0 := rfl
    have e2 : rd m (k : Int) = m.getD k 0 := rfl
    rw [H.cmpFrom, e1, e2, W_take, W_take, cmpFrom_val l m hl hm k]
    generalize l.getD k 0 = x at h1
    generalize m.getD k 0 = y at h2
    generalize W 4294967296 (l.take k) = u at w1
    generalize W 4294967296 (m.take k) = v at w2
    generalize 4294967296 ^ k = Q at p1 p2
    by_cases hxy : x = y
    · subst hxy
      rw [if_pos rfl]
      unfold sgnv
      simp only [Nat.add_lt_add_iff_right, Nat.add_right_cancel_iff]
    · rw [if_neg hxy]
      obtain ⟨a, rfl⟩ := Int.eq_ofNat_of_zero_le h1.1
      obtain ⟨b, rfl⟩ := Int.eq_ofNat_of_zero_le h2.1
      simp only [Int.toNat_natCast]
      unfold sgnv
      by_cases c1 : (a : Int) > b
      · have h3 : Q * (b + 1) ≤ Q * a := Nat.mul_le_mul_left _ (by omega)
        rw [Nat.mul_add] at h3
        rw [if_pos c1, if_neg (by omega), if_neg (by omega)]
      · have h3 : Q * (a + 1) ≤ Q * b := Nat.mul_le_mul_left _ (by omega)
        rw [Nat.mul_add] at h3
        rw [if_neg c1, if_pos (by omega)]
theorem limbsCmp (a b : Nat) (ha : (limbs a).length ≤ 9223372036854775807) (hb : (limbs b).length ≤ 9223372036854775807) : nat_limbs_cmp (limbs a) (limbs b) = some (sgnv a b) := by
  refine (top_call ..).trans ?_
  show H.cmpF (limbs a, limbs b) = _
  unfold H.cmpF
  rw [show (decide ((limbs a).length ≤ 9223372036854775807) && decide ((limbs b).length ≤ 9223372036854775807)) = true by simp; omega, cond_true]
  congr 1
  by_cases h : (limbs a).length = (limbs b).length
  · rw [if_pos h, cmpFrom_val _ _ (limbs_ok a) (limbs_ok b), List.take_length, W_limbs, h, List.take_length, W_limbs]
  · rw [if_neg h]
    unfold sgnv
    by_cases h2 : (limbs a).length > (limbs b).length
    · have := limbs_len_lt h2
      rw [if_pos h2, if_neg (by omega), if_neg (by omega)]
    · have := limbs_len_lt (a := a) (b := b) (by omega)
      rw [if_neg h2, if_pos this]
theorem natCmp (a b : List UInt8) (ha : a.length ≤ 1099511627776) (hb : b.length ≤ 1099511627776) : nat_Cmp a b = some (sgnv (val a) (val b)) := by
  have h1 := limbs_val a
  have h2 := limbs_val b
  rw [nat_Cmp_eq, natRead a (by omega), natRead b (by omega), Option.bind_some, Option.bind_some, limbsCmp _ _ (by omega) (by omega)]; rfl
theorem natAdd1 (l m : List Int) (hl : Ok 4294967296 l) (hm : Ok 4294967296 m) (ll : l.length ≤ 274877906944) (lm : m.length ≤ 274877906944) : ∀ (n i c : Nat) (acc : List Int), i + n = max l.length m.length → acc.length = i → Ok 4294967296 acc → c ≤ 1 →
    W 4294967296 acc + 4294967296 ^ i * c = W 4294967296 (l.take i) + W 4294967296 (m.take i) → nat_Add_1 l m (c : Int) ((max l.length m.length : Nat) : Int) (i : Int) acc = some (nat (W 4294967296 l + W 4294967296 m))
  | 0, i, c, acc, hn, ha, ho, hc, hw => by
    have e : IntKind.u32.wrap (c : Int) = (c : Int) := wrapU32 (by omega) (by omega)
    rw [nat_Add_1_eq, cF (decide_eq_false (by omega)), cT (room _ _ _ (by simp; omega)), e, natText _ (by simp; omega) (ho.snoc (by omega) (by omega)), Option.bind_some, W_snoc, ha, Int.toNat_natCast, hw, W_all _ l i (by omega), W_all _ m i (by omega)]
  | n + 1, i, c, acc, hn, ha, ho, hc, hw => by
    have h1 := hl.getD (by decide) i
    have h2 := hm.getD (by decide) i
    have n1 : l.getD i 0 = ((l.getD i 0).toNat : Int) := by omega
    have n2 : m.getD i 0 = ((m.getD i 0).toNat : Int) := by omega
    generalize hx : (l.getD i 0).toNat = x at n1
    generalize hy : (m.getD i 0).toNat = y at n2
    have hv : IntKind.u64.wrap (IntKind.u64.wrap ((x : Int) + (y : Int)) + (c : Int)) = ((x + y + c : Nat) : Int) := by rw [wrapU64 (n := (x : Int) + (y : Int)) (by omega) (by omega), wrapU64 (by omega) (by omega)]; omega
    have e1 : IntKind.u32.wrap ((x + y + c : Nat) : Int) = (((x + y + c) % 4294967296 : Nat) : Int) := by rw [mod_u32]; omega
    have e2 : ((x + y + c : Nat) : Int).fdiv (2 ^ min 32 IntKind.u64.bits) = (((x + y + c) / 4294967296 : Nat) : Int) := by rw [p32, fd (by omega)]; omega
    rw [nat_Add_1_eq, cT (decide_eq_true (by omega)), natAt l hl, natAt m hm, Option.bind_some, Option.bind_some, n1, n2, hv, e1, cT (room _ _ _ (by simp; omega)), cT (decide_eq_true (by decide)), e2, wS (by omega)]
    refine natAdd1 l m hl hm ll lm n (i + 1) _ _ (by omega) (by simp [ha]) (ho.snoc (by omega) (by omega)) (by omega) ?_
    have hs := add_step (4294967296 ^ i) 4294967296 (W 4294967296 acc) c x y (W 4294967296 (l.take i)) (W 4294967296 (m.take i)) ((x + y + c) / 4294967296) ((x + y + c) % 4294967296) hw (by omega)
    rw [W_snoc, ha, Int.toNat_natCast, W_take, W_take, hx, hy, Nat.pow_succ]
    exact hs
theorem natAdd (a b : List UInt8) (ha : a.length ≤ 1099511627000) (hb : b.length ≤ 1099511627000) : nat_Add a b = some (nat (val a + val b)) := by
  have h1 := limbs_val a
  have h2 := limbs_val b
  have := natAdd1 (limbs (val a)) (limbs (val b)) (limbs_ok _) (limbs_ok _) (by omega) (by omega) _ 0 0 [] (Nat.zero_add _) rfl (Ok.nil _) (by omega) (by simp [W])
  rw [nat_Add_eq, natRead a (by omega), natRead b (by omega), Option.bind_some, Option.bind_some, show max ((limbs (val a)).length : Int) ((limbs (val b)).length : Int) = ((max (limbs (val a)).length (limbs (val b)).length : Nat) : Int) by omega]
  rw [W_limbs, W_limbs] at this
  exact this
/-- A row of a product. -/
theorem natMul2 (l m : List Int) (hl : Ok 4294967296 l) (hm : Ok 4294967296 m) (ll : l.length ≤ 274877906944) (lm : m.length ≤ 274877906944) (i : Nat) (hi : i < l.length) (X : Nat) : ∀ (n k c : Nat) (out : List Int), k + n = m.length → out.length = l.length + m.length → Ok 4294967296 out → c < 4294967296 →
    (∀ p, i + m.length ≤ p → out.getD p 0 = 0) → W 4294967296 out + 4294967296 ^ (i + k) * c = X + (l.getD i 0).toNat * 4294967296 ^ i * W 4294967296 (m.take k) →
    ∃ out', nat_Mul_2 l m (i : Int) (c : Int) (l.length : Int) (i : Int) (m.length : Int) (k : Int) out = nat_Mul_1 l m (l.length : Int) ((i + 1 : Nat) : Int) out' ∧ out'.length = l.length + m.length ∧ Ok 4294967296 out' ∧ (∀ p, i + 1 + m.length ≤ p → out'.getD p 0 = 0) ∧
      W 4294967296 out' = X + (l.getD i 0).toNat * 4294967296 ^ i * W 4294967296 m
  | 0, k, c, out, hn, ho1, ho, hc, hz, hw => by
    have e : IntKind.u32.wrap (c : Int) = (c : Int) := wrapU32 (by omega) (by omega)
    refine ⟨out.set (i + m.length) (c : Int), ?_, by simp [ho1], ho.set _ (by omega) (by omega), fun p hp => ?_, ?_⟩
    · rw [nat_Mul_2_eq, cF (decide_eq_false (by omega)), wA (by omega), ho1, cT (ix (by omega)), wS (by omega), Int.toNat_natCast, e]
    · rw [getD_set_ne _ _ _ _ (by omega)]; exact hz p (by omega)
    · have h1 := W_set' 4294967296 out (i + m.length) c (by omega)
      rw [hz _ (Nat.le_refl _)] at h1
      obtain rfl : k = m.length := by omega
      rw [List.take_length] at hw
      simp only [Int.toNat_zero, Nat.mul_zero, Nat.add_zero] at h1
      omega
  | n + 1, k, c, out, hn, ho1, ho, hc, hz, hw => by
    have h1 := ho.getD (by decide) (i + k)
    have h2 := hm.getD (by decide) k
    have h0 := hl.getD (by decide) i
    have n1 : out.getD (i + k) 0 = ((out.getD (i + k) 0).toNat : Int) := by omega
    have n2 : m.getD k 0 = ((m.getD k 0).toNat : Int) := by omega
    have n0 : l.getD i 0 = ((l.getD i 0).toNat : Int) := by omega
    generalize hy : (out.getD (i + k) 0).toNat = y at n1
    generalize hd : (m.getD k 0).toNat = d at n2
    generalize hx : (l.getD i 0).toNat = x at n0 hw
    have hxd := le_mul_pred (a := x) (b := d) (B := 4294967296) (by omega) (by omega)
    have hv : IntKind.u64.wrap (IntKind.u64.wrap (IntKind.u64.wrap ((x : Int) * (d : Int)) + (y : Int)) + (c : Int)) = ((x * d + y + c : Nat) : Int) := by
      rw [show (x : Int) * (d : Int) = ((x * d : Nat) : Int) by simp, wrapU64 (n := ((x * d : Nat) : Int)) (by omega) (by omega), wrapU64 (n := ((x * d : Nat) : Int) + (y : Int)) (by omega) (by omega), wrapU64 (by omega) (by omega)]
      omega
    have hlt : (x * d + y + c) / 4294967296 < 4294967296 := by omega
    have e1 : IntKind.u32.wrap ((x * d + y + c : Nat) : Int) = (((x * d + y + c) % 4294967296 : Nat) : Int) := by rw [mod_u32]; omega
    have e2 : ((x * d + y + c : Nat) : Int).fdiv (2 ^ min 32 IntKind.u64.bits) = (((x * d + y + c) / 4294967296 : Nat) : Int) := by rw [p32, fd (by omega)]; omega
    have hstep := natMul2 l m hl hm ll lm i hi X n (k + 1) ((x * d + y + c) / 4294967296) (out.set (i + k) (((x * d + y + c) % 4294967296 : Nat) : Int)) (by omega) (by simp [ho1]) (ho.set _ (by omega) (by omega)) hlt
      (fun p hp => by rw [getD_set_ne _ _ _ _ (by omega)]; exact hz p hp) (by
        have hset := W_set' 4294967296 out (i + k) ((x * d + y + c) % 4294967296) (by omega)
        rw [hy] at hset
        have := mul_step 4294967296 (4294967296 ^ (i + k)) (W 4294967296 out) (W 4294967296 (out.set (i + k) (((x * d + y + c) % 4294967296 : Nat) : Int))) X (W 4294967296 (m.take k)) c x d y ((x * d + y + c) / 4294967296) ((x * d + y + c) % 4294967296) (4294967296 ^ i) (4294967296 ^ k) hw (Nat.pow_add _ _ _) hset (by omega)
        rw [W_take, hd, hx, ← Nat.add_assoc i k 1, Nat.pow_succ]
        exact this)
    obtain ⟨out', h, r⟩ := hstep
    rw [hx] at r
    refine ⟨out', ?_, r⟩
    rw [nat_Mul_2_eq, cT (decide_eq_true (by omega)), natAt l hl, natAt m hm, Option.bind_some, Option.bind_some, wA (by omega), natAt out ho, Option.bind_some, n0, n1, n2, hv, e1, ho1, cT (ix (by omega)), cT (decide_eq_true (by decide)), e2, wS (by omega), Int.toNat_natCast]
    exact h
theorem natMul1 (l m : List Int) (hl : Ok 4294967296 l) (hm : Ok 4294967296 m) (ll : l.length ≤ 274877906944) (lm : m.length ≤ 274877906944) : ∀ (n i : Nat) (out : List Int), i + n = l.length → out.length = l.length + m.length → Ok 4294967296 out → (∀ p, i + m.length ≤ p → out.getD p 0 = 0) →
    W 4294967296 out = W 4294967296 (l.take i) * W 4294967296 m → nat_Mul_1 l m (l.length : Int) (i : Int) out = some (nat (W 4294967296 l * W 4294967296 m))
  | 0, i, out, hn, h1, ho, hz, hw => by
    rw [W_all _ l i (by omega)] at hw
    rw [nat_Mul_1_eq, cF (decide_eq_false (by omega)), natText out (by omega) ho, hw]; rfl
  | n + 1, i, out, hn, h1, ho, hz, hw => by
    obtain ⟨out', h, q1, q2, q3, q4⟩ := natMul2 l m hl hm ll lm i (by omega) (W 4294967296 out) m.length 0 0 out (Nat.zero_add _) h1 ho (by omega) hz (by simp [W])
    rw [nat_Mul_1_eq, cT (decide_eq_true (by omega))]
    refine Eq.trans h ?_
    refine natMul1 l m hl hm ll lm n (i + 1) out' (by omega) q1 q2 q3 ?_
    rw [q4, hw, W_take, Nat.add_mul, Nat.mul_comm (l.getD i 0).toNat]
theorem zeros_getD (n p : Nat) : (List.replicate n (0 : Int)).getD p 0 = 0 := by
  rw [List.getD_eq_getElem?_getD, List.getElem?_replicate]; split <;> rfl
theorem natMul (a b : List UInt8) (ha : a.length ≤ 549755813000) (hb : b.length ≤ 549755813000) : nat_Mul a b = some (nat (val a * val b)) := by
  have h1 := limbs_val a
  have h2 := limbs_val b
  have := natMul1 (limbs (val a)) (limbs (val b)) (limbs_ok _) (limbs_ok _) (by omega) (by omega) _ 0 (List.replicate ((limbs (val a)).length + (limbs (val b)).length) 0) (Nat.zero_add _) (by simp) (Ok.zeros (by decide) _) (fun p _ => zeros_getD _ _) (by rw [W_zeros]; simp [W])
  rw [W_limbs, W_limbs] at this
  rw [nat_Mul_eq, natRead a (by omega), natRead b (by omega), Option.bind_some, Option.bind_some, wA (by omega), cT (by simp; omega), Int.toNat_natCast]
  exact this
end Go.Proofs.YtenebjaipfcflaaDoor.P

/- Division: the reference's, and the parts of the program's. -/
set_option linter.unusedVariables false
set_option linter.unusedSimpArgs false
namespace Go.Proofs.YtenebjaipfcflaaDoor.P
open Go Go.Proofs.YtenebjaipfcflaaDoor.K Go.Proofs.YtenebjaipfcflaaDoor.C
/-! ### the reference -/
theorem sgnv_neg {a b : Nat} : sgnv a b < 0 ↔ a < b := by
  unfold sgnv
  by_cases h : a < b
  · simp [h]
  · rw [if_neg h]; split <;> simp [h]
theorem len_mono {a b : Nat} (h : a ≤ b) : (nat a).length ≤ (nat b).length := by
  have := val_lt (nat b)
  rw [val_nat] at this
  exact nat_length_le (by omega)
theorem take_one (t : List UInt8) (i : Nat) (h : i < t.length) : (t.take (i + 1)).drop i = [t[i]] := by
  rw [List.drop_take, show i + 1 - i = 1 by omega, List.drop_eq_getElem_cons h]; rfl
def divmod (a b : Nat) : List UInt8 × List UInt8 × Int := if b = 0 then ([], [], 5) else (nat (a / b), nat (a % b), 0)
/-! ### limbs of a text, and back -/
theorem divRead1 : ∀ (n : Nat) (s : List UInt8) (acc : List Int), s.length ≤ n → s.length + 4 * acc.length ≤ 4398046511104 → (∀ b l, s = b :: l → b ≠ 0) → divide_read_1 s acc = some (acc ++ limbs (val s))
  | 0, s, acc, h, hl, hs => by
    obtain rfl : s = [] := List.eq_nil_of_length_eq_zero (by omega)
    rw [divide_read_1_eq, cF (decide_eq_false (by simp)), val_nil, limbs_zero, List.append_nil]
  | n + 1, s, acc, h, hl, hs => by
    by_cases h0 : s.length = 0
    · obtain rfl : s = [] := List.eq_nil_of_length_eq_zero h0
      rw [divide_read_1_eq, cF (decide_eq_false (by simp)), val_nil, limbs_zero, List.append_nil]
    · have hw : max 0 (IntKind.i64.wrap ((s.length : Int) - 4)) = ((s.length - 4 : Nat) : Int) := by rw [wrap64 (by omega) (by omega)]; omega
      have hcl : (s.drop (s.length - 4)).length ≤ 4 := by simp; omega
      have hv := val_lt (s.drop (s.length - 4))
      have hp : 256 ^ (s.drop (s.length - 4)).length ≤ 256 ^ 4 := Nat.pow_le_pow_right (by decide) hcl
      have hnz : val s ≠ 0 := fun e => h0 (by rw [← trim_fix hs, e, nat_zero]; rfl)
      have hval : val s = val (s.take (s.length - 4)) * 256 ^ (s.drop (s.length - 4)).length + val (s.drop (s.length - 4)) := by rw [← val_append, List.take_append_drop]
      have hst : ∀ b l, s.take (s.length - 4) = b :: l → b ≠ 0 := by
        intro b l e
        cases s with
        | nil => simp at e
        | cons c s =>
          cases hk : (c :: s).length - 4 with
          | zero => rw [hk] at e; simp at e
          | succ k => rw [hk] at e; simp at e; rw [← e.1]; exact hs c s rfl
      have hm : val s % 4294967296 = val (s.drop (s.length - 4)) ∧ val s / 4294967296 = val (s.take (s.length - 4)) := by
        by_cases h4 : s.length ≤ 4
        · rw [show s.length - 4 = 0 by omega] at *
          simp only [List.take_zero, List.drop_zero, val_nil] at *
          constructor <;> omega
        · rw [show (s.drop (s.length - 4)).length = 4 by simp; omega] at *
          constructor <;> omega
      have e1 : IntKind.u32.wrap (((val (s.drop (s.length - 4)) : Nat) : Int)) = ((val s % 4294967296 : Nat) : Int) := by rw [hm.1, wrapU32 (by omega) (by omega)]
      rw [divide_read_1_eq, cT (decide_eq_true (show (s.length : Int) > 0 by omega)), hw, cT (inC (by omega)), Int.toNat_natCast, natSmall _ (by omega), Option.bind_some, small, if_pos (by omega), e1, cT (room _ _ _ (by simp; omega)), cT (inC (by omega)),
        divRead1 n _ _ (by simp; omega) (by simp; omega) hst, limbs_pos hnz, hm.2, List.append_assoc]
      rfl
theorem divRead (s : List UInt8) (h : s.length ≤ 1000000000) : divide_read s = some (limbs (val s)) := by
  have := nat_val_length s
  rw [divide_read_eq, natTrim, Option.bind_some, divRead1 _ _ [] (Nat.le_refl _) (by simp; omega) (nat_head _), val_nat, List.nil_append]
theorem divText (l : List Int) (hl : l.length ≤ 1000000000) (ho : Ok 4294967296 l) : divide_limbs_text l = some (nat (W 4294967296 l)) := by
  refine (top_call ..).trans ?_
  show H.textDivF l = _
  unfold H.textDivF
  rw [cT (decide_eq_true (by omega)), trimB]
  have : H.be4Div l.reverse = H.be4 l.reverse := rfl
  rw [this, be4_ok l ho]
theorem W_dropS (B : Nat) (l : List Int) (k : Nat) (h : k < l.length) : W B (l.drop k) = (l.getD k 0).toNat + B * W B (l.drop (k + 1)) := by
  rw [List.drop_eq_getElem_cons h, W, List.getD_eq_getElem?_getD, List.getElem?_eq_getElem h]; rfl
theorem short1 (l : List Int) (v : Nat) (hb : 0 < v) (hb2 : v < 4294967296) (ho : Ok 4294967296 l) : ∀ (k : Nat) (st : Int × List Int), k ≤ l.length → Ok 4294967296 st.2 → st.2.length = l.length → (∀ p, p < k → st.2.getD p 0 = 0) →
    st.1 = ((W 4294967296 (l.drop k) % v : Nat) : Int) → W 4294967296 st.2 = 4294967296 ^ k * (W 4294967296 (l.drop k) / v) →
    (((List.range k).reverse).foldl (H.shortStep l (v : Int)) st).1 = ((W 4294967296 l % v : Nat) : Int) ∧ W 4294967296 (((List.range k).reverse).foldl (H.shortStep l (v : Int)) st).2 = W 4294967296 l / v ∧
      Ok 4294967296 (((List.range k).reverse).foldl (H.shortStep l (v : Int)) st).2 ∧ (((List.range k).reverse).foldl (H.shortStep l (v : Int)) st).2.length = l.length
  | 0, st, hk, h1, h2, h3, h4, h5 => by
    rw [List.drop_zero] at h4 h5
    refine ⟨h4, ?_, h1, h2⟩
    show W _ st.2 = _
    rw [h5]; simp
  | k + 1, (rest, out), hk, h1, h2, h3, h4, h5 => by
    have hkl : k < l.length := by omega
    have hx := ho.getD (by decide) k
    have e0 : rd l (k : Int) = l.getD k 0 := rfl
    have hm := Nat.mod_lt (W 4294967296 (l.drop (k + 1))) hb
    have hd := Nat.div_add_mod (W 4294967296 (l.drop (k + 1))) v
    have hW := W_dropS 4294967296 l k hkl
    simp only at h1 h2 h3 h4 h5
    generalize hQ : W 4294967296 (l.drop (k + 1)) / v = Q at *
    generalize hr : W 4294967296 (l.drop (k + 1)) % v = r at *
    have n0 : l.getD k 0 = ((l.getD k 0).toNat : Int) := by omega
    generalize hy : (l.getD k 0).toNat = y at n0 hW
    have hq : (r * 4294967296 + y) / v < 4294967296 := (Nat.div_lt_iff_lt_mul hb).2 (by have : (r + 1) * 4294967296 ≤ v * 4294967296 := Nat.mul_le_mul_right _ hm; omega)
    have ex : H.shortX rest (rd l (k : Int)) = ((r * 4294967296 + y : Nat) : Int) := by
      unfold H.shortX
      rw [e0, n0, h4, wrapU64 (n := (y : Int)) (by omega) (by omega), wrapU64 (n := (r : Int) * 4294967296) (by omega) (by omega), ← bitop_or, or_u64 _ _ 32 (by omega) (by omega) (by omega) (by omega) (by omega) (by omega)]
      omega
    have eW : W 4294967296 (l.drop k) = (r * 4294967296 + y) + v * (4294967296 * Q) := by
      rw [hW, ← hd, Nat.mul_add, Nat.mul_left_comm v]; omega
    have eq1 : (IntKind.u64.wrap (((r * 4294967296 + y : Nat) : Int).tdiv (v : Int))) % 4294967296 = (((r * 4294967296 + y) / v : Nat) : Int) := by
      rw [Int.tdiv_eq_ediv_of_nonneg (by omega), ← Int.natCast_ediv]
      generalize (r * 4294967296 + y) / v = d at hq
      rw [wrapU64 (by omega) (by omega)]
      omega
    have es : H.shortStep l (v : Int) (rest, out) k = ((((r * 4294967296 + y) % v : Nat) : Int), out.set k (((r * 4294967296 + y) / v : Nat) : Int)) := by
      unfold H.shortStep
      simp only
      rw [ex, eq1, Int.tmod_eq_emod_of_nonneg (by omega), ← Int.natCast_emod]
    rw [List.range_succ, List.reverse_append, List.reverse_singleton, List.singleton_append, List.foldl_cons, es]
    refine short1 l v hb hb2 ho k _ (by omega) (h1.set _ (Int.natCast_nonneg _) (by exact_mod_cast hq)) (by simp [h2]) (fun p hp => ?_) ?_ ?_
    · simp only
      rw [getD_set_ne _ _ _ _ (by omega)]; exact h3 p (by omega)
    · simp only
      rw [eW, Nat.add_mul_mod_self_left]
    · simp only
      have hs := W_set' 4294967296 out k ((r * 4294967296 + y) / v) (by omega)
      rw [h3 k (by omega)] at hs
      rw [eW, Nat.add_mul_div_left _ _ hb]
      simp only [Int.toNat_zero, Nat.mul_zero, Nat.add_zero] at hs
      rw [hs, h5, Nat.pow_succ, Nat.mul_add, Nat.mul_assoc]
      omega
theorem divShort (l : List Int) (v : Nat) (hb : 0 < v) (hb2 : v < 4294967296) (ho : Ok 4294967296 l) (hl : l.length ≤ 1000000000) : ∃ out, divide_limbs_short l (v : Int) = some (out, [((W 4294967296 l % v : Nat) : Int)]) ∧ Ok 4294967296 out ∧ out.length = l.length ∧ W 4294967296 out = W 4294967296 l / v := by
  obtain ⟨h1, h2, h3, h4⟩ := short1 l v hb hb2 ho l.length (0, List.replicate l.length 0) (Nat.le_refl _) (Ok.zeros (by decide) _) (by simp) (fun p _ => zeros_getD _ _) (by simp [W]) (by simp [W, W_zeros])
  refine ⟨_, ?_, h3, h4, h2⟩
  refine (top_call ..).trans ?_
  show H.shortF (l, (v : Int)) = _
  unfold H.shortF
  have hm := Nat.mod_lt (W 4294967296 l) hb
  rw [cT (by simp; omega)]
  unfold H.shortEnd H.shortSt
  rw [h1]
  generalize W 4294967296 l % v = R at hm ⊢
  rw [show ((R : Nat) : Int) % 4294967296 = (R : Int) by omega]
end Go.Proofs.YtenebjaipfcflaaDoor.P

/- Division: digits shifted, shifted back, and a digit that is guessed. -/
set_option linter.unusedVariables false
set_option linter.unusedSimpArgs false
namespace Go.Proofs.YtenebjaipfcflaaDoor.P
open Go Go.Proofs.YtenebjaipfcflaaDoor.K Go.Proofs.YtenebjaipfcflaaDoor.C
theorem bits_or_comm (k : IntKind) (x y : Int) : Go.bits .or k x y = Go.bits .or k y x := by simp only [Go.bits, BitVec.or_comm]
theorem W_digit {B : Nat} (hB : 0 < B) {l : List Int} (ho : Ok B l) : ∀ i, (l.getD i 0).toNat = W B l / B ^ i % B := by
  induction l with
  | nil => intro i; simp [W]
  | cons a l ih =>
    intro i
    have ha := ho a (List.mem_cons_self ..)
    cases i with
    | zero => simp only [List.getD_cons_zero, W, Nat.pow_zero, Nat.div_one]; rw [Nat.add_mul_mod_self_left, Nat.mod_eq_of_lt (by omega)]
    | succ i => rw [List.getD_cons_succ, ih (fun x hx => ho x (List.mem_cons_of_mem _ hx)) i, W, Nat.pow_succ', ← Nat.div_div_eq_div_mul, Nat.add_mul_div_left _ _ hB, Nat.div_eq_of_lt (a := a.toNat) (by omega), Nat.zero_add]
theorem tkset (out : List Int) (i : Nat) (v : Int) : (out.set i v).take i = out.take i := by rw [List.take_set, List.set_eq_of_length_le (by simp; omega)]
theorem W_tkset (B : Nat) (out : List Int) (i v : Nat) (h : i < out.length) : W B ((out.set i (v : Int)).take (i + 1)) = W B (out.take i) + B ^ i * v := by
  rw [W_take, tkset, getD_set_self _ _ _ h]; rfl
theorem shift_step (P w c u y s v c' B : Nat) (h : w + P * c = u * s) (hv : y * s + c = B * c' + v) : w + P * v + P * B * c' = (u + P * y) * s := by
  have : P * (y * s + c) = P * (B * c' + v) := by rw [hv]
  grind
theorem pw64 (n : Nat) (h : n ≤ 64) : (2 : Int) ^ min (n : Int).toNat IntKind.u64.bits = ((2 ^ n : Nat) : Int) := by
  rw [Int.toNat_natCast, Nat.min_eq_left (by simpa [IntKind.bits] using h)]; simp
theorem divShift1 (l : List Int) (ho : Ok 4294967296 l) (hl : l.length ≤ 1000000000) (s : Nat) (hs : s < 32) : ∀ (m i c : Nat) (out : List Int), i + m = l.length → out.length = l.length + 1 → Ok 4294967296 out → c < 2 ^ s →
    W 4294967296 (out.take i) + 4294967296 ^ i * c = W 4294967296 (l.take i) * 2 ^ s → ∃ r, divide_limbs_shifted_1 l (s : Int) (c : Int) l (l.length : Int) (i : Int) out = some r ∧ r.length = l.length + 1 ∧ Ok 4294967296 r ∧ W 4294967296 r = W 4294967296 l * 2 ^ s
  | 0, i, c, out, hi, hol, hoo, hc, hw => by
    obtain rfl : i = l.length := by omega
    have hp : 2 ^ s ≤ 2 ^ 31 := Nat.pow_le_pow_right (by decide) (by omega)
    refine ⟨out.set l.length (c : Int), ?_, by simp [hol], hoo.set _ (by omega) (by omega), ?_⟩
    · rw [divide_limbs_shifted_1_eq, cF (decide_eq_false (by omega)), cT (ix (by omega)), Int.toNat_natCast, wrapU32 (by omega) (by omega)]
    · rw [← W_all 4294967296 (out.set l.length (c : Int)) (l.length + 1) (by simp [hol]), W_tkset _ _ _ _ (by omega), hw, List.take_length]
  | m + 1, i, c, out, hi, hol, hoo, hc, hw => by
    have hp : 2 ^ s ≤ 2 ^ 31 := Nat.pow_le_pow_right (by decide) (by omega)
    have hx := ho.getD (by decide) i
    have n0 : l.getD i 0 = ((l.getD i 0).toNat : Int) := by omega
    have hpw := pw64 s (by omega)
    have hmod : (((2 ^ s : Nat) : Int)) = 2 ^ s := by simp
    generalize hy : (l.getD i 0).toNat = y at n0
    have hys : y * 2 ^ s ≤ 4294967295 * 2 ^ s := Nat.mul_le_mul_right _ (by omega)
    have e1 : bitop .or .u64 (IntKind.u64.wrap ((IntKind.u64.wrap (l.getD i 0)) * 2 ^ min (s : Int).toNat IntKind.u64.bits)) (c : Int) = ((y * 2 ^ s + c : Nat) : Int) := by
      rw [n0, wrapU64 (n := (y : Int)) (by omega) (by omega), hpw, ← Int.natCast_mul, wrapU64 (by omega) (by omega), or_u64 _ _ s (by omega) (by rw [← hmod, Int.natCast_mul]; exact Int.mul_emod_left ..) (by omega) (by omega) (by rw [← hmod]; omega) (by omega)]
      omega
    obtain ⟨r, h, hr⟩ := divShift1 l ho hl s hs m (i + 1) ((y * 2 ^ s + c) / 4294967296) (out.set i (((y * 2 ^ s + c) % 4294967296 : Nat) : Int)) (by omega) (by simp [hol]) (hoo.set _ (by omega) (by omega)) (by omega) (by
      rw [W_tkset _ _ _ _ (by omega), W_take, hy, Nat.pow_succ]
      exact shift_step (4294967296 ^ i) _ c _ y (2 ^ s) ((y * 2 ^ s + c) % 4294967296) ((y * 2 ^ s + c) / 4294967296) 4294967296 hw (by omega))
    refine ⟨r, ?_, hr⟩
    rw [divide_limbs_shifted_1_eq, cT (decide_eq_true (by omega)), cT (ix (by omega)), cT (decide_eq_true (by omega)), cT (ix (by omega)), cT (decide_eq_true (by decide)), Int.toNat_natCast, e1, p32, fd (by omega), wS (by omega), mod_u32,
      show ((y * 2 ^ s + c : Nat) : Int) / 4294967296 = (((y * 2 ^ s + c) / 4294967296 : Nat) : Int) by omega, show ((y * 2 ^ s + c : Nat) : Int) % 4294967296 = (((y * 2 ^ s + c) % 4294967296 : Nat) : Int) by omega]
    exact h
theorem divShift (l : List Int) (ho : Ok 4294967296 l) (hl : l.length ≤ 1000000000) (s : Nat) (hs : s < 32) : ∃ r, divide_limbs_shifted l (s : Int) = some r ∧ r.length = l.length + 1 ∧ Ok 4294967296 r ∧ W 4294967296 r = W 4294967296 l * 2 ^ s := by
  obtain ⟨r, h, hr⟩ := divShift1 l ho hl s hs l.length 0 0 (List.replicate (l.length + 1) 0) (Nat.zero_add _) (by simp) (Ok.zeros (by decide) _) (Nat.two_pow_pos s) (by simp [W])
  refine ⟨r, ?_, hr⟩
  rw [divide_limbs_shifted_eq, wS (by omega), cT (by simp; omega), Int.toNat_natCast]
  exact h
theorem back_digit (T s B t : Nat) (hs : s ≤ 32) (hB : B = 4294967296) : (T % (B * B)) / 2 ^ s % B = T / 2 ^ s % B := by
  have h1 := Nat.div_add_mod T (B * B)
  have h2 : B = 2 ^ s * 2 ^ (32 - s) := by rw [← Nat.pow_add, show s + (32 - s) = 32 by omega, hB]
  generalize T % (B * B) = x at *
  generalize T / (B * B) = t at *
  subst h1
  have : B * B * t + x = x + 2 ^ s * (B * (2 ^ (32 - s) * t)) := by
    have e : B * B * t = B * (2 ^ s * 2 ^ (32 - s)) * t := by rw [← h2]
    rw [e]; grind
  rw [this, Nat.add_mul_div_left _ _ (Nat.two_pow_pos s), Nat.add_mul_mod_self_left]
theorem divBack1 (l : List Int) (ho : Ok 4294967296 l) (hl : l.length ≤ 1000000000) (s : Nat) (hs : s < 32) : ∀ (m i : Nat) (out : List Int), i + m = l.length → out.length = l.length → Ok 4294967296 out →
    W 4294967296 (out.take i) = W 4294967296 l / 2 ^ s % 4294967296 ^ i → ∃ r, divide_limbs_back_1 l (s : Int) (l.length : Int) (i : Int) out = some r ∧ r.length = l.length ∧ Ok 4294967296 r ∧ W 4294967296 r = W 4294967296 l / 2 ^ s
  | 0, i, out, hi, hol, hoo, hw => by
    obtain rfl : i = l.length := by omega
    refine ⟨out, by rw [divide_limbs_back_1_eq, cF (decide_eq_false (by omega))], hol, hoo, ?_⟩
    rw [W_all _ _ _ (by omega), Nat.mod_eq_of_lt (Nat.lt_of_le_of_lt (Nat.div_le_self _ _) (W_lt ho))] at hw
    exact hw
  | m + 1, i, out, hi, hol, hoo, hw => by
    have hx := ho.getD (by decide) i
    have hx1 := ho.getD (by decide) (i + 1)
    have d0 := W_digit (by decide) ho i
    have d1 := W_digit (by decide) ho (i + 1)
    have n0 : l.getD i 0 = ((l.getD i 0).toNat : Int) := by omega
    have n1 : l.getD (i + 1) 0 = ((l.getD (i + 1) 0).toNat : Int) := by omega
    generalize hT : W 4294967296 l / 4294967296 ^ i = T at d0
    have hT1 : W 4294967296 l / 4294967296 ^ (i + 1) = T / 4294967296 := by rw [← hT, Nat.pow_succ, Nat.div_div_eq_div_mul]
    rw [hT1] at d1
    have hx2 : T % (4294967296 * 4294967296) = T % 4294967296 + 4294967296 * (T / 4294967296 % 4294967296) := Nat.mod_mul
    have hp : 1 ≤ 2 ^ s := Nat.one_le_two_pow
    have hpw := pw64 s (by omega)
    have fin : ∃ r, divide_limbs_back_2 l (s : Int) (i : Int) ((T % (4294967296 * 4294967296) : Nat) : Int) (l.length : Int) (i : Int) out = some r ∧ r.length = l.length ∧ Ok 4294967296 r ∧ W 4294967296 r = W 4294967296 l / 2 ^ s := by
      have hb := back_digit T s 4294967296 0 (by omega) rfl
      have hle : T % (4294967296 * 4294967296) / 2 ^ s ≤ T % (4294967296 * 4294967296) := Nat.div_le_self _ _
      obtain ⟨r, h, hr⟩ := divBack1 l ho hl s hs m (i + 1) (out.set i ((T / 2 ^ s % 4294967296 : Nat) : Int)) (by omega) (by simp [hol]) (hoo.set _ (by omega) (by omega)) (by
        rw [W_tkset _ _ _ _ (by omega), hw, Nat.mod_pow_succ, Nat.div_div_eq_div_mul (W 4294967296 l), Nat.mul_comm (2 ^ s), ← Nat.div_div_eq_div_mul, hT])
      refine ⟨r, ?_, hr⟩
      rw [divide_limbs_back_2_eq, cT (decide_eq_true (by omega)), cT (ix (by omega)), hpw, fd (by omega), ← Int.natCast_ediv, Int.toNat_natCast, mod_u32, wS (by omega), show ((T % (4294967296 * 4294967296) / 2 ^ s : Nat) : Int) % 4294967296 = ((T / 2 ^ s % 4294967296 : Nat) : Int) by omega]
      exact h
    obtain ⟨r, h, hr⟩ := fin
    refine ⟨r, ?_, hr⟩
    rw [divide_limbs_back_1_eq, cT (decide_eq_true (by omega)), cT (ix (by omega)), wS (by omega)]
    by_cases hlast : i + 1 < l.length
    · rw [cT (decide_eq_true (by omega)), cT (ix hlast), cT (decide_eq_true (by decide)), Int.toNat_natCast, Int.toNat_natCast, p32]
      have e : bitop .or .u64 (IntKind.u64.wrap (l.getD i 0)) (IntKind.u64.wrap (IntKind.u64.wrap (l.getD (i + 1) 0) * 4294967296)) = ((T % (4294967296 * 4294967296) : Nat) : Int) := by
        rw [bitop_or, bits_or_comm, ← bitop_or, n0, n1, wrapU64 (n := (((l.getD i 0).toNat : Nat) : Int)) (by omega) (by omega), wrapU64 (n := (((l.getD (i + 1) 0).toNat : Nat) : Int)) (by omega) (by omega), wrapU64 (by omega) (by omega), or_u64 _ _ 32 (by omega) (by omega) (by omega) (by omega) (by omega) (by omega)]
        omega
      rw [e]
      exact h
    · have hz : T / 4294967296 = 0 := by rw [← hT1]; exact Nat.div_eq_of_lt (by have := W_lt ho; rwa [show l.length = i + 1 by omega] at this)
      rw [cF (decide_eq_false (by omega)), Int.toNat_natCast, n0, wrapU64 (by omega) (by omega), show ((l.getD i 0).toNat : Int) = ((T % (4294967296 * 4294967296) : Nat) : Int) by omega]
      exact h
theorem divBack (l : List Int) (ho : Ok 4294967296 l) (hl : l.length ≤ 1000000000) (s : Nat) (hs : s < 32) : ∃ r, divide_limbs_back l (s : Int) = some r ∧ r.length = l.length ∧ Ok 4294967296 r ∧ W 4294967296 r = W 4294967296 l / 2 ^ s := by
  obtain ⟨r, h, hr⟩ := divBack1 l ho hl s hs l.length 0 (List.replicate l.length 0) (Nat.zero_add _) (by simp) (Ok.zeros (by decide) _) (by simp [W, Nat.mod_one])
  refine ⟨r, ?_, hr⟩
  rw [divide_limbs_back_eq, cT (by simp; omega), Int.toNat_natCast]
  exact h
/-! ### a digit that is guessed -/
theorem guess1 (third high low x : Nat) (h3 : third < 4294967296) (hh : high < 4294967296) (hh1 : 2147483648 ≤ high) (hlow : low < 4294967296) (hx : x < high * 4294967296 + 4294967296) : ∀ (q r : Nat), q * high + r = x → r < 4294967296 →
    min 4294967295 ((x * 4294967296 + third) / (high * 4294967296 + low)) ≤ q → q ≤ 4294967297 → divide_guess_1 (third : Int) (high : Int) (low : Int) (q : Int) (r : Int) = some ((min 4294967295 ((x * 4294967296 + third) / (high * 4294967296 + low)) : Nat) : Int)
  | q, r, hq, hr, hm, hb => by
    have hv : 0 < high * 4294967296 + low := by omega
    have le1 : ∀ p : Nat, p ≤ (x * 4294967296 + third) / (high * 4294967296 + low) ↔ p * high * 4294967296 + p * low ≤ x * 4294967296 + third := fun p => by
      rw [Nat.le_div_iff_mul_le hv, Nat.mul_add, Nat.mul_assoc]
    generalize hM : (x * 4294967296 + third) / (high * 4294967296 + low) = M at *
    have hor : bitop .or .u64 (IntKind.u64.wrap ((r : Int) * 2 ^ min 32 IntKind.u64.bits)) (third : Int) = ((r * 4294967296 + third : Nat) : Int) := by
      rw [p32, wrapU64 (by omega) (by omega), or_u64 _ _ 32 (by omega) (by omega) (by omega) (by omega) (by omega) (by omega)]; omega
    have stay : q ≤ M → q ≤ 4294967295 → (some (q : Int)) = some ((min 4294967295 M : Nat) : Int) := fun h1 h2 => by congr 1; omega
    have hqM := le1 q
    have go : (4294967295 < q ∨ M < q) → divide_guess_2 (third : Int) (high : Int) (low : Int) (q : Int) (r : Int) true = some ((min 4294967295 M : Nat) : Int) := by
      intro ht
      match q with
      | 0 => omega
      | q + 1 =>
        have ha : IntKind.u64.wrap ((r : Int) + (high : Int)) = ((r + high : Nat) : Int) := by rw [wrapU64 (by omega) (by omega)]; omega
        have hs : IntKind.u64.wrap (((q + 1 : Nat) : Int) - 1) = (q : Int) := by rw [wrapU64 (by omega) (by omega)]; omega
        have hq1 : q * high + (r + high) = x := by rw [Nat.succ_mul] at hq; omega
        rw [divide_guess_2_eq, cond_true, cT (decide_eq_true (by decide)), ha, hs, p32, fd (by omega)]
        by_cases hB : 4294967296 ≤ r + high
        · rw [cT (decide_eq_true (by omega))]
          have hq2 : q ≤ 4294967295 := by
            rcases Nat.lt_or_ge 4294967295 q with h | h
            · have := Nat.mul_le_mul_right high (show 4294967296 ≤ q from h)
              omega
            · exact h
          have h4 : q * low ≤ 4294967295 * low := Nat.mul_le_mul_right _ hq2
          have := (le1 q).2 (by omega)
          congr 1
          omega
        · rw [cF (decide_eq_false (by omega))]
          rw [← hM]
          exact guess1 third high low x h3 hh hh1 hlow hx q (r + high) hq1 (by omega) (by rw [hM]; omega) (by omega)
    rw [divide_guess_1_eq, cT (decide_eq_true (by decide)), p32, fd (by omega)]
    by_cases hbig : 4294967296 ≤ q
    · rw [cT (decide_eq_true (by omega))]
      exact go (.inl (by omega))
    · have hql : q * low ≤ 4294967295 * low := Nat.mul_le_mul_right _ (by omega)
      rw [cF (decide_eq_false (by omega)), cT (decide_eq_true (by decide)), ← p32, hor, ← Int.natCast_mul, wrapU64 (by omega) (by omega)]
      by_cases ht : r * 4294967296 + third < q * low
      · rw [decide_eq_true (show ((q * low : Nat) : Int) > ((r * 4294967296 + third : Nat) : Int) by omega)]
        exact go (.inr (by
          rcases Nat.lt_or_ge M q with h | h
          · exact h
          · have := hqM.1 h; omega))
      · rw [decide_eq_false (show ¬ ((q * low : Nat) : Int) > ((r * 4294967296 + third : Nat) : Int) by omega), divide_guess_2_eq, cond_false]
        exact stay (hqM.2 (by omega)) (by omega)
theorem divGuess (top next third high low : Nat) (h1 : top ≤ high) (h2 : next < 4294967296) (h3 : third < 4294967296) (hh : high < 4294967296) (hh1 : 2147483648 ≤ high) (hlow : low < 4294967296) :
    divide_guess (top : Int) (next : Int) (third : Int) (high : Int) (low : Int) = some ((min 4294967295 (((top * 4294967296 + next) * 4294967296 + third) / (high * 4294967296 + low)) : Nat) : Int) := by
  have hor : bitop .or .u64 (IntKind.u64.wrap ((top : Int) * 2 ^ min 32 IntKind.u64.bits)) (next : Int) = ((top * 4294967296 + next : Nat) : Int) := by
    rw [p32, wrapU64 (by omega) (by omega), or_u64 _ _ 32 (by omega) (by omega) (by omega) (by omega) (by omega) (by omega)]; omega
  have hx : top * 4294967296 + next < high * 4294967296 + 4294967296 := by omega
  obtain ⟨x, hxe⟩ : ∃ x, x = top * 4294967296 + next := ⟨_, rfl⟩
  rw [← hxe] at hor hx ⊢
  have hd := Nat.div_add_mod x high
  have hm := Nat.mod_lt x (show 0 < high by omega)
  have hq : x / high < 4294967298 := (Nat.div_lt_iff_lt_mul (by omega)).2 (by omega)
  have hM : (x * 4294967296 + third) / (high * 4294967296 + low) ≤ x / high := by
    refine Nat.lt_succ_iff.1 ((Nat.div_lt_iff_lt_mul (by omega)).2 ?_)
    rw [Nat.succ_mul, Nat.mul_add, ← Nat.mul_assoc, Nat.mul_comm (x / high) high]
    omega
  have hz : (!decide ((high : Int) = 0)) = true := by rw [decide_eq_false (by omega)]; rfl
  have e1 : (x : Int).tdiv (high : Int) = ((x / high : Nat) : Int) := by rw [Int.tdiv_eq_ediv_of_nonneg (by omega), ← Int.natCast_ediv]
  have e2 : (x : Int).tmod (high : Int) = ((x % high : Nat) : Int) := by rw [Int.tmod_eq_emod_of_nonneg (by omega), ← Int.natCast_emod]
  have hg := guess1 third high low x h3 hh hh1 hlow hx (x / high) (x % high) (by rw [Nat.mul_comm]; exact hd) (Nat.lt_trans hm hh) (Nat.le_trans (Nat.min_le_right ..) hM) (Nat.le_of_lt_succ hq)
  rw [divide_guess_eq, cT (decide_eq_true (by decide)), cT hz, cT hz, hor, e1, e2]
  generalize x / high = q at hg hq
  rw [wrapU64 (by omega) (by omega)]
  exact hg
theorem knuth (P u3 U' v2 V' : Nat) (hU : U' < P) (hV : V' < P) (hlt : u3 * P + U' < (v2 * P + V') * 4294967296) (hv : 4294967296 ≤ v2) :
    (u3 * P + U') / (v2 * P + V') ≤ min 4294967295 (u3 / v2) ∧ min 4294967295 (u3 / v2) ≤ (u3 * P + U') / (v2 * P + V') + 1 := by
  have hP : 0 < P := by omega
  have hpos : 0 < v2 * P + V' := Nat.lt_of_lt_of_le (Nat.mul_pos (by omega) hP) (Nat.le_add_right ..)
  have hQ := Nat.div_mul_le_self (u3 * P + U') (v2 * P + V')
  have hQ2 : (u3 * P + U') / (v2 * P + V') < 4294967296 := (Nat.div_lt_iff_lt_mul hpos).2 (by omega)
  constructor
  · have : (u3 * P + U') / (v2 * P + V') ≤ u3 / v2 := by
      rw [Nat.le_div_iff_mul_le (by omega)]
      generalize (u3 * P + U') / (v2 * P + V') = Q at *
      have h1 : Q * v2 * P < (u3 + 1) * P := by rw [Nat.mul_add, ← Nat.mul_assoc] at hQ; rw [Nat.succ_mul]; omega
      exact Nat.lt_succ_iff.1 (Nat.lt_of_mul_lt_mul_right h1)
    omega
  · cases hq : min 4294967295 (u3 / v2) with
    | zero => exact Nat.zero_le _
    | succ p =>
      have h1 : (p + 1) * v2 ≤ u3 := (Nat.le_div_iff_mul_le (by omega)).1 (by omega)
      have : p ≤ (u3 * P + U') / (v2 * P + V') := by
        rw [Nat.le_div_iff_mul_le hpos, Nat.mul_add, ← Nat.mul_assoc]
        have h2 : p * V' ≤ p * P := Nat.mul_le_mul_left _ (by omega)
        have h3 : (p * v2 + p) * P ≤ u3 * P := Nat.mul_le_mul_right _ (by rw [Nat.succ_mul] at h1; omega)
        rw [Nat.add_mul] at h3
        omega
      exact Nat.succ_le_succ this
end Go.Proofs.YtenebjaipfcflaaDoor.P

/- Division by more than one limb, and DivMod. -/
set_option linter.unusedVariables false
set_option linter.unusedSimpArgs false
namespace Go.Proofs.YtenebjaipfcflaaDoor.P
open Go Go.Proofs.YtenebjaipfcflaaDoor.K Go.Proofs.YtenebjaipfcflaaDoor.C
theorem W_take_lt {B : Nat} (hB : 0 < B) {l : List Int} (ho : Ok B l) (j : Nat) (h : W B l < B ^ j) : W B (l.take j) = W B l := by
  by_cases hj : j ≤ l.length
  · have h1 := W_split B l j hj
    rcases Nat.eq_zero_or_pos (W B (l.drop j)) with h0 | h0
    · rw [h0] at h1; omega
    · have : B ^ j * 1 ≤ B ^ j * W B (l.drop j) := Nat.mul_le_mul_left _ h0
      omega
  · rw [List.take_of_length_le (by omega)]
theorem W_above {B : Nat} (hB : 0 < B) {l : List Int} (ho : Ok B l) (j p : Nat) (h : W B l < B ^ j) (hp : j ≤ p) : l.getD p 0 = 0 := by
  have h1 := W_digit hB ho p
  have h2 : B ^ j ≤ B ^ p := Nat.pow_le_pow_right hB hp
  rw [Nat.div_eq_of_lt (by omega), Nat.zero_mod] at h1
  have := ho.getD hB p
  omega
theorem W_lt_above {B : Nat} (hB : 0 < B) {l : List Int} (ho : Ok B l) (j : Nat) (h : ∀ p, j ≤ p → l.getD p 0 = 0) : W B l < B ^ j := by
  have key : ∀ k, W B (l.take (j + k)) = W B (l.take j) := by
    intro k
    induction k with
    | zero => rfl
    | succ k ih => rw [← Nat.add_assoc, W_take, ih, h (j + k) (by omega)]; simp
  have h1 := key l.length
  rw [W_all B l _ (by omega)] at h1
  have h2 := W_lt (ho.take j)
  have h3 : B ^ (l.take j).length ≤ B ^ j := Nat.pow_le_pow_right hB (by simp; omega)
  omega
theorem take_step (P At Bi w w' w0 q m mi c b r v pm c' b' B : Nat) (hP : P = At * Bi) (h : w + At * (q * m) = w0 + P * (c + b)) (hset : w' + P * r = w + P * v) (hp : q * mi + c = B * c' + pm) (hn : v + pm + b = r + B * b') :
    w' + At * (q * (m + Bi * mi)) = w0 + P * B * (c' + b') := by
  subst hP
  have e1 : At * Bi * (q * mi + c) = At * Bi * (B * c' + pm) := by rw [hp]
  have e2 : At * Bi * (v + pm + b) = At * Bi * (r + B * b') := by rw [hn]
  have : w' + At * (q * (m + Bi * mi)) + At * Bi * r + At * Bi * c + At * Bi * b + At * Bi * pm = w0 + At * Bi * B * (c' + b') + At * Bi * r + At * Bi * c + At * Bi * b + At * Bi * pm := by grind
  omega
theorem take_last (P w w' w0 x c b r v neg B : Nat) (h : w + x = w0 + P * (c + b)) (hset : w' + P * r = w + P * v) (hn : v + c + b = r + B * neg) : w' + x = w0 + P * B * neg := by
  have e2 : P * (v + c + b) = P * (r + B * neg) := by rw [hn]
  have : w' + x + P * r + P * c + P * b = w0 + P * B * neg + P * r + P * c + P * b := by grind
  omega
theorem p63 : (2 : Int) ^ min 63 IntKind.u64.bits = 9223372036854775808 := rfl
/-- So many times a number is taken off. -/
theorem divTake (m : List Int) (hm : Ok 4294967296 m) (q : Nat) (hq : q < 4294967296) (at_ : Nat) (rest0 out m2 : List Int) (by_ n2 at2 q2 : Int) (hlen : at_ + m.length < rest0.length) (hl : rest0.length ≤ 2000000000) :
    ∀ (k i c b : Nat) (rest : List Int), i + k = m.length → rest.length = rest0.length → Ok 4294967296 rest → c < 4294967296 → b ≤ 1 → (∀ p, at_ + i ≤ p → rest.getD p 0 = rest0.getD p 0) →
      W 4294967296 rest + 4294967296 ^ at_ * (q * W 4294967296 (m.take i)) = W 4294967296 rest0 + 4294967296 ^ (at_ + i) * (c + b) →
      ∃ (rest' : List Int) (neg : Nat), rest'.length = rest0.length ∧ Ok 4294967296 rest' ∧ (∀ p, at_ + m.length < p → rest'.getD p 0 = rest0.getD p 0) ∧ neg ≤ 1 ∧
        W 4294967296 rest' + 4294967296 ^ at_ * (q * W 4294967296 m) = W 4294967296 rest0 + 4294967296 ^ (at_ + m.length + 1) * neg ∧
        divide_limbs_long_3 m (q : Int) (at_ : Int) (c : Int) (b : Int) (m.length : Int) (i : Int) rest out m2 by_ n2 at2 q2 =
          cond (decide (neg = 1)) (divide_limbs_long_4 m2 at2 rest' out m2 by_ n2 at2 (IntKind.u64.wrap (q2 - 1)))
            (cond (decide (0 ≤ at2) && decide (at2 < (out.length : Int))) (divide_limbs_long_1 m2 by_ n2 (IntKind.i64.wrap (at2 - 1)) rest' (out.set at2.toNat (IntKind.u32.wrap q2))) none)
  | 0, i, c, b, rest, hi, hr, ho, hc, hb, hsame, hw => by
    obtain rfl : i = m.length := by omega
    have hx := ho.getD (by decide) (at_ + m.length)
    have n0 : rest.getD (at_ + m.length) 0 = ((rest.getD (at_ + m.length) 0).toNat : Int) := by omega
    generalize hy : (rest.getD (at_ + m.length) 0).toNat = r at n0
    have en : IntKind.u64.wrap (IntKind.u64.wrap (IntKind.u64.wrap (r : Int) - (c : Int)) - (b : Int)) = ((r : Int) - c - b) % 18446744073709551616 := by
      rw [wrapU64 (n := (r : Int)) (by omega) (by omega), mod_u64, mod_u64]; omega
    have hset := fun v : Nat => W_set' 4294967296 rest (at_ + m.length) v (by omega)
    simp only [hy] at hset
    rw [List.take_length] at hw
    by_cases hneg : r < c + b
    · refine ⟨rest.set (at_ + m.length) ((r + 4294967296 - c - b : Nat) : Int), 1, by simp [hr], ho.set _ (by omega) (by omega), fun p hp => by rw [getD_set_ne _ _ _ _ (by omega)]; exact hsame p (by omega), by omega, ?_, ?_⟩
      · rw [Nat.pow_succ]
        exact take_last (4294967296 ^ (at_ + m.length)) _ _ _ _ c b r (r + 4294967296 - c - b) 1 4294967296 hw (hset _) (by omega)
      · rw [divide_limbs_long_3_eq, cF (decide_eq_false (by omega)), wA (by omega), cT (ix (by omega)), cT (ix (by omega)), cT (decide_eq_true (by decide)), Int.toNat_natCast, n0, en, p63, fd (by omega), mod_u32]
        have e1 : ((r : Int) - c - b) % 18446744073709551616 / 9223372036854775808 = 1 := by omega
        have e2 : ((r : Int) - c - b) % 18446744073709551616 % 4294967296 = ((r + 4294967296 - c - b : Nat) : Int) := by omega
        rw [e1, e2, cT (by rfl), cT (by rfl)]
    · refine ⟨rest.set (at_ + m.length) ((r - c - b : Nat) : Int), 0, by simp [hr], ho.set _ (by omega) (by omega), fun p hp => by rw [getD_set_ne _ _ _ _ (by omega)]; exact hsame p (by omega), by omega, ?_, ?_⟩
      · rw [Nat.pow_succ]
        exact take_last (4294967296 ^ (at_ + m.length)) _ _ _ _ c b r (r - c - b) 0 4294967296 hw (hset _) (by omega)
      · rw [divide_limbs_long_3_eq, cF (decide_eq_false (by omega)), wA (by omega), cT (ix (by omega)), cT (ix (by omega)), cT (decide_eq_true (by decide)), Int.toNat_natCast, n0, en, p63, fd (by omega), mod_u32]
        have e1 : ((r : Int) - c - b) % 18446744073709551616 / 9223372036854775808 = 0 := by omega
        have e2 : ((r : Int) - c - b) % 18446744073709551616 % 4294967296 = ((r - c - b : Nat) : Int) := by omega
        rw [e1, e2, cF (c := !(decide ((0 : Int) = 0))) (by rfl), cF (c := decide (0 = 1)) (by rfl)]
  | k + 1, i, c, b, rest, hi, hr, ho, hc, hb, hsame, hw => by
    have hx := ho.getD (by decide) (at_ + i)
    have hmx := hm.getD (by decide) i
    have n0 : rest.getD (at_ + i) 0 = ((rest.getD (at_ + i) 0).toNat : Int) := by omega
    have n1 : m.getD i 0 = ((m.getD i 0).toNat : Int) := by omega
    generalize hy : (rest.getD (at_ + i) 0).toNat = r at n0
    generalize hd : (m.getD i 0).toNat = d at n1
    have hqd := le_mul_pred (a := q) (b := d) (B := 4294967296) hq (by omega)
    have ep : IntKind.u64.wrap (IntKind.u64.wrap ((q : Int) * IntKind.u64.wrap (m.getD i 0)) + (c : Int)) = ((q * d + c : Nat) : Int) := by
      rw [n1, wrapU64 (n := (d : Int)) (by omega) (by omega), ← Int.natCast_mul, wrapU64 (n := ((q * d : Nat) : Int)) (by omega) (by omega), wrapU64 (by omega) (by omega)]; omega
    generalize hp : q * d + c = pr at ep
    have hpr : pr < 18446744073709551616 := by omega
    have en : IntKind.u64.wrap (IntKind.u64.wrap (IntKind.u64.wrap (r : Int) - ((pr : Int) % 4294967296)) - (b : Int)) = ((r : Int) - pr % 4294967296 - b) % 18446744073709551616 := by
      rw [wrapU64 (n := (r : Int)) (by omega) (by omega), mod_u64, mod_u64]; omega
    have hset := fun v : Nat => W_set' 4294967296 rest (at_ + i) v (by omega)
    simp only [hy] at hset
    obtain ⟨v, b', hv, hb', hn, e1, e2⟩ : ∃ v b' : Nat, v < 4294967296 ∧ b' ≤ 1 ∧ v + pr % 4294967296 + b = r + 4294967296 * b' ∧ ((r : Int) - pr % 4294967296 - b) % 18446744073709551616 / 9223372036854775808 = (b' : Int) ∧ ((r : Int) - pr % 4294967296 - b) % 18446744073709551616 % 4294967296 = (v : Int) := by
      by_cases hneg : r < pr % 4294967296 + b
      · exact ⟨r + 4294967296 - pr % 4294967296 - b, 1, by omega, by omega, by omega, by omega, by omega⟩
      · exact ⟨r - pr % 4294967296 - b, 0, by omega, by omega, by omega, by omega, by omega⟩
    obtain ⟨rest', neg, g1, g2, g3, g4, g5, g6⟩ := divTake m hm q hq at_ rest0 out m2 by_ n2 at2 q2 hlen hl k (i + 1) (pr / 4294967296) b' (rest.set (at_ + i) (v : Int)) (by omega) (by simp [hr]) (ho.set _ (by omega) (by omega)) (by omega) hb'
      (fun p hp => by rw [getD_set_ne _ _ _ _ (by omega)]; exact hsame p (by omega)) (by
        rw [W_take, hd, ← Nat.add_assoc, Nat.pow_succ]
        exact take_step _ (4294967296 ^ at_) (4294967296 ^ i) _ _ _ q _ d c b r v (pr % 4294967296) _ b' 4294967296 (Nat.pow_add ..) hw (hset v) (by omega) hn)
    refine ⟨rest', neg, g1, g2, g3, g4, g5, ?_⟩
    rw [divide_limbs_long_3_eq, cT (decide_eq_true (by omega)), cT (ix (by omega)), cT (decide_eq_true (by decide)), wA (by omega), cT (ix (by omega)), cT (ix (by omega)), cT (decide_eq_true (by decide)), Int.toNat_natCast, Int.toNat_natCast, ep, and_u64w _ (by omega) (by omega), n0, en, p63, p32, fd (by omega), fd (by omega), mod_u32, e1, e2, wS (by omega),
      show (pr : Int) / 4294967296 = ((pr / 4294967296 : Nat) : Int) by omega]
    exact g6
theorem give_step (P At Bi w w' w0 m mi c r v c' B : Nat) (hP : P = At * Bi) (h : w + P * c = w0 + At * m) (hset : w' + P * r = w + P * v) (hn : r + mi + c = B * c' + v) :
    w' + P * B * c' = w0 + At * (m + Bi * mi) := by
  subst hP
  have e1 : At * Bi * (r + mi + c) = At * Bi * (B * c' + v) := by rw [hn]
  have : w' + At * Bi * B * c' + At * Bi * r + At * Bi * c + At * Bi * v = w0 + At * (m + Bi * mi) + At * Bi * r + At * Bi * c + At * Bi * v := by grind
  omega
theorem give_last (P w w' w0 x c r v o B : Nat) (h : w + P * c = w0 + x) (hset : w' + P * r = w + P * v) (hn : r + c = B * o + v) : w' + P * B * o = w0 + x := by
  have e1 : P * (r + c) = P * (B * o + v) := by rw [hn]
  have : w' + P * B * o + P * r + P * c + P * v = w0 + x + P * r + P * c + P * v := by grind
  omega
/-- A number is given back. -/
theorem divGive (m : List Int) (hm : Ok 4294967296 m) (at_ : Nat) (rest0 out m2 : List Int) (by_ n2 at2 q2 : Int) (hlen : at_ + m.length < rest0.length) (hl : rest0.length ≤ 2000000000) :
    ∀ (k i c : Nat) (rest : List Int), i + k = m.length → rest.length = rest0.length → Ok 4294967296 rest → c ≤ 1 → (∀ p, at_ + i ≤ p → rest.getD p 0 = rest0.getD p 0) →
      W 4294967296 rest + 4294967296 ^ (at_ + i) * c = W 4294967296 rest0 + 4294967296 ^ at_ * W 4294967296 (m.take i) →
      ∃ (rest' : List Int) (o : Nat), rest'.length = rest0.length ∧ Ok 4294967296 rest' ∧ (∀ p, at_ + m.length < p → rest'.getD p 0 = rest0.getD p 0) ∧ o ≤ 1 ∧
        W 4294967296 rest' + 4294967296 ^ (at_ + m.length + 1) * o = W 4294967296 rest0 + 4294967296 ^ at_ * W 4294967296 m ∧
        divide_limbs_long_5 m (at_ : Int) (c : Int) (m.length : Int) (i : Int) rest out m2 by_ n2 at2 q2 =
            (cond (decide (0 ≤ at2) && decide (at2 < (out.length : Int))) (divide_limbs_long_1 m2 by_ n2 (IntKind.i64.wrap (at2 - 1)) rest' (out.set at2.toNat (IntKind.u32.wrap q2))) none)
  | 0, i, c, rest, hi, hr, ho, hc, hsame, hw => by
    obtain rfl : i = m.length := by omega
    have hx := ho.getD (by decide) (at_ + m.length)
    have n0 : rest.getD (at_ + m.length) 0 = ((rest.getD (at_ + m.length) 0).toNat : Int) := by omega
    generalize hy : (rest.getD (at_ + m.length) 0).toNat = r at n0
    have en : IntKind.u32.wrap ((r : Int) + IntKind.u32.wrap (c : Int)) = (((r + c) % 4294967296 : Nat) : Int) := by
      rw [wrapU32 (n := (c : Int)) (by omega) (by omega), mod_u32]; omega
    have hset := fun v : Nat => W_set' 4294967296 rest (at_ + m.length) v (by omega)
    simp only [hy] at hset
    rw [List.take_length] at hw
    refine ⟨rest.set (at_ + m.length) (((r + c) % 4294967296 : Nat) : Int), (r + c) / 4294967296, by simp [hr], ho.set _ (by omega) (by omega), fun p hp => by rw [getD_set_ne _ _ _ _ (by omega)]; exact hsame p (by omega), by omega, ?_, ?_⟩
    · rw [Nat.pow_succ]
      exact give_last (4294967296 ^ (at_ + m.length)) _ _ _ _ c r ((r + c) % 4294967296) _ 4294967296 hw (hset _) (by omega)
    · rw [divide_limbs_long_5_eq, cF (decide_eq_false (by omega)), wA (by omega), cT (ix (by omega)), cT (ix (by omega)), Int.toNat_natCast, n0, en]
  | k + 1, i, c, rest, hi, hr, ho, hc, hsame, hw => by
    have hx := ho.getD (by decide) (at_ + i)
    have hmx := hm.getD (by decide) i
    have n0 : rest.getD (at_ + i) 0 = ((rest.getD (at_ + i) 0).toNat : Int) := by omega
    have n1 : m.getD i 0 = ((m.getD i 0).toNat : Int) := by omega
    generalize hy : (rest.getD (at_ + i) 0).toNat = r at n0
    generalize hd : (m.getD i 0).toNat = d at n1
    have en : IntKind.u64.wrap (IntKind.u64.wrap (IntKind.u64.wrap (r : Int) + IntKind.u64.wrap (d : Int)) + (c : Int)) = ((r + d + c : Nat) : Int) := by
      rw [wrapU64 (n := (r : Int)) (by omega) (by omega), wrapU64 (n := (d : Int)) (by omega) (by omega), wrapU64 (n := (r : Int) + (d : Int)) (by omega) (by omega), wrapU64 (by omega) (by omega)]; omega
    have hset := W_set' 4294967296 rest (at_ + i) ((r + d + c) % 4294967296) (by omega)
    rw [hy] at hset
    obtain ⟨rest', o, g1, g2, g3, g4, g5, g6⟩ := divGive m hm at_ rest0 out m2 by_ n2 at2 q2 hlen hl k (i + 1) ((r + d + c) / 4294967296) (rest.set (at_ + i) (((r + d + c) % 4294967296 : Nat) : Int)) (by omega) (by simp [hr]) (ho.set _ (by omega) (by omega)) (by omega)
        (fun p hp => by rw [getD_set_ne _ _ _ _ (by omega)]; exact hsame p (by omega)) (by
          rw [W_take, hd, ← Nat.add_assoc, Nat.pow_succ]
          exact give_step _ (4294967296 ^ at_) (4294967296 ^ i) _ _ _ _ d c r ((r + d + c) % 4294967296) _ 4294967296 (Nat.pow_add ..) hw hset (by omega))
    refine ⟨rest', o, g1, g2, g3, g4, g5, ?_⟩
    rw [divide_limbs_long_5_eq, cT (decide_eq_true (by omega)), wA (by omega), cT (ix (by omega)), cT (ix (by omega)), cT (ix (by omega)), cT (decide_eq_true (by decide)), Int.toNat_natCast, Int.toNat_natCast, n0, n1, en, p32, fd (by omega), mod_u32, wS (by omega),
      show ((r + d + c : Nat) : Int) / 4294967296 = (((r + d + c) / 4294967296 : Nat) : Int) by omega, show ((r + d + c : Nat) : Int) % 4294967296 = (((r + d + c) % 4294967296 : Nat) : Int) by omega]
    exact g6
end Go.Proofs.YtenebjaipfcflaaDoor.P
