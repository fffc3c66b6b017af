/- (abacist/divide.limbs).short: digits divided by one digit, the highest first: the contract, by hand (a range over slices.Backward that stores). -/
import Derived.Test.YtcdcijhfjiahkaaDoorRBwDiv
import Derived.Test.YtcdcijhfjiahkaaDoorRKM
import Derived.Maps.AppendAt
import Derived.BigRegionIn
namespace Go.Proofs.YtcdcijhfjiahkaaDoorR.H
open Go Go.RowKit Go.Shelf Go.Proofs.YtcdcijhfjiahkaaDoorR.BwDiv
open Go.Proofs.YtcdcijhfjiahkaaDoorR.K (Ty den rd nums nums_append add_plain ReadsInt own_base own_string Nums unSl unInt unCons slDen ret_str ret_int ret_sl str_bytes RetT CallT retT_plain denInt denStr cond_some bytesOf)
attribute [local go_sem] Oper.semAt_some
set_option linter.unusedVariables false
set_option linter.unusedSimpArgs false

/-- One digit more: the rest, and the quotient's digits. -/
def shortX (rest n : Int) : Int := Go.bits .or .u64 (IntKind.u64.wrap (rest * 4294967296)) (IntKind.u64.wrap n)
def shortStep (l : List Int) (by_ : Int) (st : Int × List Int) (i : Nat) : Int × List Int :=
  ((shortX st.1 (rd l (i : Int))).tmod by_, st.2.set i (IntKind.u64.wrap ((shortX st.1 (rd l (i : Int))).tdiv by_) % 4294967296))
def shortSt (l : List Int) (by_ : Int) (is : List Nat) : Int × List Int := is.foldl (shortStep l by_) (0, List.replicate l.length 0)
theorem shortSt_snoc (l : List Int) (by_ : Int) (is : List Nat) (i : Nat) : shortSt l by_ (is ++ [i]) = shortStep l by_ (shortSt l by_ is) i := by simp [shortSt]
theorem shortSt_length (l : List Int) (by_ : Int) (is : List Nat) : (shortSt l by_ is).2.length = l.length := by
  unfold shortSt
  suffices H : ∀ (is : List Nat) (st : Int × List Int), st.2.length = l.length → (is.foldl (shortStep l by_) st).2.length = l.length from H is _ (by simp)
  intro is
  induction is with
  | nil => intro st h; exact h
  | cons i is ih => intro st h; exact ih _ (by simp [shortStep, h])
def shortEnd (l : List Int) (by_ : Int) : Int × List Int := shortSt l by_ (List.range l.length).reverse
def shortF (y : List Int × Int) : Option (List Int × List Int) :=
  cond (decide (0 < y.2) && (decide (y.2 < 4294967296) && decide (y.1.length ≤ 1099511627776))) (some ((shortEnd y.1 y.2).2, [(shortEnd y.1 y.2).1 % 4294967296])) none

/-- Operations that defer nothing go in a round as they go anywhere. -/
def plainOps (ops : Array Oper) : Bool := ops.toList.all fun o => match o.op with
  | .defer _ => false
  | _ => true
theorem wpOp_round {F : Fence} {n r : Nat} {P : Program} {ops : Array Oper} {Q : Exit → Act → World → Prop} (hro : F.round = none) (hp : plainOps ops = true) {i : Nat} {K K' : Act → World → Prop} {a : Act} {w : World} (hK : ∀ a w, K a w → K' a w)
    (h : wpOpIn F n P ops Q i K a w) : wpOpIn (F.inRound r) n P ops Q i K' a w := by
  unfold wpOpIn at h ⊢
  cases ho : ops[i]? with
  | none =>
    simp only [ho] at h ⊢
    exact hK _ _ h
  | some o =>
    simp only [ho] at h ⊢
    split
    · rename_i hw
      simp only [hw, if_true] at h
      have hd : ∀ c, o.op ≠ .defer c := by
        intro c hc
        have hm : o ∈ ops.toList := by simpa using Array.mem_of_getElem? ho
        have := List.all_eq_true.1 hp o hm
        rw [hc] at this
        cases this
      refine ⟨h.1, ?_⟩
      have h2 := h.2
      rw [Oper.semAt_plain F _ _ hd] at h2
      rw [Oper.semAt_plain (F.inRound r) _ _ hd]
      generalize (execOp a.eval o).run P w = res at h2
      cases res with
      | ok x w' =>
        cases x <;> simp only [Oper.uponIn] at h2 ⊢ <;>
          first
            | exact hK _ _ h2
            | exact ⟨h2.1, CallsIn.inRound r (CallsIn.mono h2.2 (fun e w'' he => by cases e <;> first | exact hK _ _ he | exact he))⟩
            | exact ⟨h2.1, RowsIn.mono h2.2 (fun _ _ he => hK _ _ he)⟩
            | exact ⟨h2.1, RoundIn.mono h2.2 (fun e w'' he => by cases e <;> first | exact hK _ _ he | exact he)⟩
      | halt x w' => cases x <;> simp only [Oper.uponIn] at h2 ⊢ <;> exact h2
    · rename_i hw
      simp only [hw] at h
      exact ⟨h.1, hK _ _ h.2⟩
theorem wpAny_round {F : Fence} {n r : Nat} {P : Program} {ops : Array Oper} {Q : Exit → Act → World → Prop} {md : Region.Mode} (hro : F.round = none) (hp : plainOps ops = true) :
    ∀ (fuel : Nat) (listed : Array Bool) (a : Act) (w : World), wpAnyIn F n P md ops Q fuel listed a w → wpAnyIn (F.inRound r) n P md ops Q fuel listed a w
  | 0, _, _, _, h => h
  | fuel + 1, listed, a, w, h => ⟨h.1, fun i hi => wpOp_round hro hp (fun a w h => wpAny_round hro hp fuel _ a w h) (h.2 i hi)⟩

namespace Hshort
/-- A row that lies in its block. -/
def Arr (W : World) (B : Nat) (t : TypeId) (xs : List Int) : Prop := W.heap[B]? = some (.cells (nums .u32 xs).toArray t)
theorem Arr.lt {W : World} {B : Nat} {t : TypeId} {xs : List Int} (h : Arr W B t xs) : B < W.heap.size := (Array.getElem?_eq_some_iff.1 h).1
theorem Arr.cell {W : World} {B : Nat} {t : TypeId} {xs : List Int} (h : Arr W B t xs) (i : Nat) (hi : i < xs.length) : W.cell? ⟨B, i, none⟩ = some (.int .u32 (xs.getD i 0)) := by
  simp [World.cell?, show W.heap[B]? = _ from h, nums, hi]
theorem Arr.frozen {W : World} {B : Nat} {t : TypeId} {xs : List Int} (h : Arr W B t xs) (i : Nat) : W.frozen? ⟨B, i, none⟩ = false := by simp [World.frozen?, show W.heap[B]? = _ from h]
theorem Arr.shape {W : World} {B : Nat} {t : TypeId} {xs : List Int} (h : Arr W B t xs) : W.shape? B = some (t, xs.length) := by simp [World.shape?, show W.heap[B]? = _ from h, nums]
theorem Arr.kept {W W' : World} {row : Option Nat} {B : Nat} {t : TypeId} {xs : List Int} (h : Arr W B t xs) (hg : W.grownBy W' row) (hne : some B ≠ row) : Arr W' B t xs := (hg.block B h.lt hne).trans h
theorem Arr.set {W : World} {B : Nat} {t : TypeId} {xs : List Int} (h : Arr W B t xs) (i : Nat) (v : Int) : Arr (W.setCell ⟨B, i, none⟩ (.int .u32 v)) B t (xs.set i v) := by
  obtain ⟨hlt, hk⟩ := Array.getElem?_eq_some_iff.1 h
  show (W.heap.modify B _)[B]? = _
  rw [Array.getElem?_eq_getElem (by rw [Array.size_modify]; exact hlt), Array.getElem_modify_self, hk]
  simp [nums, List.map_set]
theorem grown_set (W : World) (b i : Nat) (v : Value) : W.grownBy (W.setCell ⟨b, i, none⟩ v) (some b) :=
  ⟨rfl, rfl, rfl, (KeepsWalks.setCell W _ v).size, fun k _ hk => Below.heap_setCell _ _ _ k (fun e => hk (by rw [e]))⟩
theorem arr_own {β : Type} (B : Nat) (t : TypeId) (f : β → List Int) : Own (fun s W => Arr W B t (f s)) := by
  intro s X Y row h hg hrow
  refine h.kept hg (fun e => ?_)
  obtain ⟨o, ho, hc⟩ := hrow B e.symm
  rw [show X.heap[B]? = _ from h] at ho
  cases ho
  simp [Obj.isCells] at hc
theorem box_own {β : Type} (B : Nat) (t : TypeId) (f : β → Value) : Own (fun s W => Boxed W B t (f s)) := by
  intro s X Y row h hg hrow
  refine Boxed.kept h hg (fun e => ?_)
  obtain ⟨o, ho, hc⟩ := hrow B e.symm
  rw [show X.heap[B]? = _ from h] at ho
  cases ho
  simp [Obj.isCells] at hc

/-- Two stores and a draw: the round's end. -/
def after2 (W : World) (N x : Nat) (v1 : Int) (v3 : Value) : World := ((W.setCell ⟨N + 1, x, none⟩ (.int .u32 v1)).setCell ⟨N + 1 + 1 + 1, 0, none⟩ v3).drew
theorem after2_heap (W : World) (N x : Nat) (v1 : Int) (v3 : Value) (k : Nat) (h1 : k ≠ N + 1) (h3 : k ≠ N + 3) : (after2 W N x v1 v3).heap[k]? = W.heap[k]? :=
  (Below.heap_setCell _ ⟨N + 1 + 1 + 1, 0, none⟩ v3 k h3).trans (Below.heap_setCell W ⟨N + 1, x, none⟩ _ k h1)
theorem after2_arr {W : World} {N : Nat} {t : TypeId} {xs : List Int} (h : Arr W (N + 1) t xs) (x : Nat) (v1 : Int) (v3 : Value) : Arr (after2 W N x v1 v3) (N + 1) t (xs.set x v1) :=
  (Below.heap_setCell _ ⟨N + 1 + 1 + 1, 0, none⟩ v3 (N + 1) (by simp)).trans (Arr.set h x v1)
theorem after2_box {W : World} {N : Nat} {t : TypeId} {v : Value} (h : Boxed W (N + 3) t v) (x : Nat) (v1 : Int) (v3 : Value) : Boxed (after2 W N x v1 v3) (N + 3) t v3 :=
  Boxed.set v3 (Boxed.kept h (grown_set W (N + 1) x _) (by simp; omega))
theorem after2_below {w W : World} {N : Nat} (h : Below N w W) (x : Nat) (v1 : Int) (v3 : Value) : Below N w (after2 W N x v1 v3) := by
  have h2 := (h.setCell (p := ⟨N + 1, x, none⟩) (by simp) (.int .u32 v1)).setCell (p := ⟨N + 1 + 1 + 1, 0, none⟩) (by simp; omega) v3
  exact ⟨h2.os, h2.tape, h2.output, h2.size, h2.block⟩
theorem after2_keeps (W : World) (N x B : Nat) (v1 : Int) (v3 : Value) : KeepsFrom B W (after2 W N x v1 v3) := by
  have h := ((KeepsOthers.setCell W ⟨N + 1, x, none⟩ (.int .u32 v1)).trans (KeepsOthers.setCell _ ⟨N + 1 + 1 + 1, 0, none⟩ v3)).from B
  exact ⟨h.1, h.2⟩

set_option maxRecDepth 100000 in
set_option maxHeartbeats 4000000 in
theorem main (A0 : Option Addr) (c0 : Nat) (l0 : List Int) (by_ : Int) (w : World) (fz0 : Nat → Prop) (hfz : ∀ b, fz0 b → b < w.heap.size) (hr0 : Nums w.heap fz0 .u32 A0 l0) (hc0 : l0.length ≤ c0) (hlen : l0.length ≤ 1099511627776) (hb0 : 0 < by_) (hb1 : by_ < 4294967296) :
    Calls Tryd.prog 121 #[.slice A0 l0.length c0, .int .u32 by_] w fun e w' =>
      ∃ B c B' , e = .returned (.tuple #[.slice (some ⟨B, 0, none⟩) l0.length c, .slice (some ⟨B', 0, none⟩) 1 1]) ∧ l0.length ≤ c ∧ w.heap.size ≤ B ∧ w.heap.size ≤ B' ∧ Arr w' B 86 (shortEnd l0 by_).2 ∧ Arr w' B' 86 [(shortEnd l0 by_).1 % 4294967296] ∧ Below w.heap.size w w' := by
  have hi5 : (Tryd.prog.info? 86).map (fun i => (i.zero, i.size, i.bytes)) = some (some (.int .u32 0), 1, 4) := by kernel_rfl
  obtain ⟨i0, hi, hz0, hz1, hz2⟩ := info_parts hi5
  clear hi5
  obtain ⟨n, hn⟩ : ∃ n, n = l0.length := ⟨_, rfl⟩
  have hmk : (Instr.makeSlice 133 (.int .i64 (n : Int)) (.int .i64 (n : Int))).run Tryd.prog (w.alloc (.cells #[.int .u32 by_] 86)) = .ok (.slice (some ⟨w.heap.size + 1, 0, none⟩) n n) ((w.alloc (.cells #[.int .u32 by_] 86)).alloc (.cells (nums .u32 (List.replicate n 0)).toArray 86)) := by
    have := run_make (P := Tryd.prog) (w.alloc (.cells #[.int .u32 by_] 86)) 133 86 i0 (.int .u32 0) Tryd.underlying133 hi hz0 .i64 .i64 n n (by omega) (Int.le_refl _) (by rw [hz2]; omega) (by omega)
    rw [this, hz1]
    have e : madeCells (Value.int .u32 0).cells (n * 1) = (nums .u32 (List.replicate n 0)).toArray := by
      have h := toList_madeCells_one (.int .u32 0) n
      apply Array.toList_inj.1
      rw [Nat.mul_one]
      refine h.trans ?_
      simp [nums]
    simp only [Int.toNat_natCast, World.size_alloc, e]
  refine (callsIn_wide (n := 3)).1 ?_
  refine callsIn_of_wp_marks Tryd.func121 rfl trivial ?_ rfl
  simp only [Tryd.ntmps121, List.size_toArray, List.length_cons, List.length_nil, Nat.reduceAdd, Nat.reduceSub, Array.replicate_succ, Array.replicate_zero, List.push_toArray, List.append_toArray, List.nil_append, List.cons_append]
  rw [← hn]
  have hn' := Lib.hid hn
  clear hn
  gi_wp2_with (refine ⟨trivial, ?_⟩; gi_at_call 134; refine (backward_in Fence.wide (3 - 1) trivial rfl _ _ _ _).mono ?_; rintro e w' ⟨rfl, rfl⟩)
  have hnn := hn'.out
  subst hnn
  clear hn' hmk
  have b3 := Boxed.new w 86 (.int .u32 by_)
  replace b3 := (((b3.alloc (.cells (nums .u32 (List.replicate l0.length 0)).toArray 86)).alloc (.cells #[.slice (some ⟨w.heap.size + 1, 0, none⟩) l0.length l0.length] 133)).alloc (.cells #[.int .u64 0] 22)).alloc (.cells #[.slice A0 l0.length c0] 133)
  obtain ⟨V1, hV1⟩ : ∃ V1, w.alloc (.cells #[.int .u32 by_] 86) = V1 := ⟨_, rfl⟩
  have hB1 : Below w.heap.size w V1 := by rw [← hV1]; exact (Below.refl _ w).alloc (Nat.le_refl _) _
  have z1 : V1.heap.size = w.heap.size + 1 := by rw [← hV1]; simp
  rw [hV1] at b3 ⊢
  have b1 : Arr (V1.alloc (.cells (nums .u32 (List.replicate l0.length 0)).toArray 86)) (w.heap.size + 1) 86 (List.replicate l0.length 0) := by rw [← z1]; exact World.alloc_heap_new V1 _
  obtain ⟨V2, hV2⟩ : ∃ V2, V1.alloc (.cells (nums .u32 (List.replicate l0.length 0)).toArray 86) = V2 := ⟨_, rfl⟩
  have hB2 : Below w.heap.size w V2 := by rw [← hV2]; exact hB1.alloc (by omega) _
  have z2 : V2.heap.size = w.heap.size + 2 := by rw [← hV2]; simp [z1]
  rw [hV2] at b1 b3 ⊢
  have b6 : Boxed (V2.alloc (.cells #[.slice (some ⟨w.heap.size + 1, 0, none⟩) l0.length l0.length] 133)) (w.heap.size + 2) 133 (.slice (some ⟨w.heap.size + 1, 0, none⟩) l0.length l0.length) := by rw [← z2]; exact Boxed.new V2 _ _
  replace b1 := b1.kept (World.grownBy_alloc V2 (.cells #[.slice (some ⟨w.heap.size + 1, 0, none⟩) l0.length l0.length] 133) none) (by simp)
  obtain ⟨V3, hV3⟩ : ∃ V3, V2.alloc (.cells #[.slice (some ⟨w.heap.size + 1, 0, none⟩) l0.length l0.length] 133) = V3 := ⟨_, rfl⟩
  have hB3 : Below w.heap.size w V3 := by rw [← hV3]; exact hB2.alloc (by omega) _
  have z3 : V3.heap.size = w.heap.size + 3 := by rw [← hV3]; simp [z2]
  rw [hV3] at b1 b3 b6 ⊢
  have b7 : Boxed (V3.alloc (.cells #[.int .u64 0] 22)) (w.heap.size + 3) 22 (.int .u64 0) := by rw [← z3]; exact Boxed.new V3 _ _
  replace b1 := b1.kept (World.grownBy_alloc V3 (.cells #[.int .u64 0] 22) none) (by simp)
  replace b6 := b6.alloc (.cells #[.int .u64 0] 22)
  obtain ⟨V4, hV4⟩ : ∃ V4, V3.alloc (.cells #[.int .u64 0] 22) = V4 := ⟨_, rfl⟩
  have hB4 : Below w.heap.size w V4 := by rw [← hV4]; exact hB3.alloc (by omega) _
  have z4 : V4.heap.size = w.heap.size + 4 := by rw [← hV4]; simp [z3]
  rw [hV4] at b1 b3 b6 b7 ⊢
  have bS : Boxed (V4.alloc (.cells #[.slice A0 l0.length c0] 133)) (w.heap.size + 4) 133 (.slice A0 l0.length c0) := by rw [← z4]; exact Boxed.new V4 _ _
  replace b1 := b1.kept (World.grownBy_alloc V4 (.cells #[.slice A0 l0.length c0] 133) none) (by simp)
  replace b6 := b6.alloc (.cells #[.slice A0 l0.length c0] 133)
  replace b7 := b7.alloc (.cells #[.slice A0 l0.length c0] 133)
  obtain ⟨W0, hW0⟩ : ∃ W0, V4.alloc (.cells #[.slice A0 l0.length c0] 133) = W0 := ⟨_, rfl⟩
  have hB0 : Below w.heap.size w W0 := by rw [← hW0]; exact hB4.alloc (by omega) _
  have hsz : W0.heap.size = w.heap.size + 5 := by rw [← hW0]; simp [z4]
  rw [hW0] at b1 b3 b6 b7 bS ⊢
  clear hV1 hV2 hV3 hV4 hW0 hB1 hB2 hB3 hB4 z1 z2 z3 z4
  obtain ⟨keep, hkeep⟩ : ∃ keep : Nat → Prop, keep = fun k => k < w.heap.size ∨ k = w.heap.size + 4 := ⟨_, rfl⟩
  have hkb : ∀ k, keep k → k < W0.heap.size := by rw [hkeep]; intro k hk; rcases hk with h | h <;> omega
  have hRd : BwDiv.Reads keep W0 (w.heap.size + 4) A0 c0 l0 := by
    intro W hW
    refine ⟨Boxed.cell ((hW _ (by rw [hkeep]; exact .inr rfl)).trans bS), ?_⟩
    refine K.Nums.reads (S := fz0) (K.Nums.mono hr0 fun b hb => ⟨hb, ?_⟩) (by omega)
    rw [hW b (by rw [hkeep]; exact .inl (hfz b hb))]
    exact hB0.block b (hfz b hb)
  have hk1 : ¬ keep (w.heap.size + 1) := by rw [hkeep]; omega
  have hk3 : ¬ keep (w.heap.size + 3) := by rw [hkeep]; omega
  clear hkeep
  refine wpIn_rangeFunc_ownG (F := Fence.wide) (n := 3) rfl (by omega) (gf := 156) (lb := #[.pointer (some ⟨w.heap.size + 4, 0, none⟩)]) rfl trivial (enters_of Tryd.func156 (by kernel_rfl) rfl)
    (BwDiv.stops Fence.wide (3 - 1) trivial rfl (by omega) (w.heap.size + 4) c0 A0 l0 (by omega) keep W0 hkb hRd) BwDiv.Keeps.trans (BwDiv.Keeps.b hkb) (Below.refl _ _) (fun _ => rfl)
    (fun pre W => (Boxed W w.heap.size 86 (.int .u32 by_) ∧ Arr W (w.heap.size + 1) 86 (shortSt l0 by_ (pre.map Fin.val)).2 ∧ Boxed W (w.heap.size + 2) 133 (.slice (some ⟨w.heap.size + 1, 0, none⟩) l0.length l0.length) ∧
      Boxed W (w.heap.size + 3) 22 (.int .u64 (shortSt l0 by_ (pre.map Fin.val)).1)) ∧ Below w.heap.size w W)
    (fun _ _ _ => False)
    (OwnFrom.and (Own.from (fun s A B row hs hg hr => ⟨box_own _ _ (fun _ => _) s A B row hs.1 hg hr, arr_own _ _ (fun s => _) s A B row hs.2.1 hg hr, box_own _ _ (fun _ => _) s A B row hs.2.2.1 hg hr, box_own _ _ (fun _ => _) s A B row hs.2.2.2 hg hr⟩) _) (ownFrom_below (Nat.le_refl _) (by omega)))
    (fun _ _ _ _ _ hs _ _ => hs)
    ⟨⟨b3, b1, b6, b7⟩, hB0⟩
    ?a1 ?assign ?body ?done ?stop
  case assign =>
    intro l x W K hK
    gi_wp2
    exact hK
  case body =>
    rintro l pre ⟨x, hx⟩ W ⟨⟨hb, ha, ho, hr⟩, hB⟩ hlt
    have hcb := hb.cell
    have hco := ho.cell
    have hcr := hr.cell
    have hfr := hr.frozen
    have hca := ha.cell x (by rw [shortSt_length]; exact hx)
    have hfa := ha.frozen x
    have hco' : W.cell? ⟨w.heap.size + 1 + 1, 0, none⟩ = some (.slice (some ⟨w.heap.size + 1, 0, none⟩) l0.length l0.length) := hco
    have hcr' : W.cell? ⟨w.heap.size + 1 + 1 + 1, 0, none⟩ = some (.int .u64 (shortSt l0 by_ (pre.map Fin.val)).1) := hcr
    have hfr' : W.frozen? ⟨w.heap.size + 1 + 1 + 1, 0, none⟩ = false := hfr
    have hbn : ¬ IntKind.u64.wrap by_ = 0 := by simp [IntKind.wrap, IntKind.bits, IntKind.signed]; omega
    dsimp only
    gi_wp2
    refine wpIn_region_any (by kernel_rfl) ?_
    refine wpAny_round rfl (by kernel_rfl) _ _ _ _ ?_
    change wpAnyIn _ _ _ _ _ _ _ _ _ (World.drew _)
    (refine wpAnyIn_take (i := 1) (v := ?_) rfl rfl (by kernel_rfl) (by kernel_rfl) (by kernel_rfl) (fun _ _ _ h => h) ⟨Or.inl ⟨by rfl, ?_⟩, fun _ => rfl⟩ ?_; rotate_left; focus (intro w; go_simp <;> with_reducible rfl))
    (refine wpAnyIn_take (i := 2) (v := ?_) rfl rfl (by kernel_rfl) (by kernel_rfl) (by kernel_rfl) (fun _ _ _ h => h) ⟨Or.inl ⟨by rfl, ?_⟩, fun _ => rfl⟩ ?_; rotate_left; focus (intro w; go_simp <;> with_reducible rfl))
    refine wpAnyIn_ready (rs := [0, 3]) (by kernel_rfl) (by simp) ?_
    refine AllReadyIn.cons rfl (fun K hK => ?_) (AllReadyIn.cons rfl (fun K hK => ?_) AllReadyIn.nil)
    · go_simp
      refine hK _ _ ?_
      clear hK K
      (refine wpAnyIn_ready (rs := [3]) (by kernel_rfl) (by simp) ?_; refine AllReadyIn.cons rfl (fun K hK => ?_) AllReadyIn.nil; go_simp; refine hK _ _ ?_; clear hK K)
      (refine wpAnyIn_take (i := 4) (v := ?_) rfl rfl (by kernel_rfl) (by kernel_rfl) (by kernel_rfl) (fun _ _ _ h => h) ⟨Or.inl ⟨by rfl, ?_⟩, fun _ => rfl⟩ ?_; rotate_left; focus (intro w; go_simp <;> with_reducible rfl))
      (refine wpAnyIn_take (i := 5) (v := ?_) rfl rfl (by kernel_rfl) (by kernel_rfl) (by kernel_rfl) (fun _ _ _ h => h) ⟨Or.inl ⟨by rfl, ?_⟩, fun _ => rfl⟩ ?_; rotate_left; focus (intro w; go_simp <;> with_reducible rfl))
      (refine wpAnyIn_take (i := 6) (v := ?_) rfl rfl (by kernel_rfl) (by kernel_rfl) (by kernel_rfl) (fun _ _ _ h => h) ⟨Or.inl ⟨by rfl, ?_⟩, fun _ => rfl⟩ ?_; rotate_left; focus (intro w; go_simp <;> with_reducible rfl))
      (refine wpAnyIn_ready (rs := [7]) (by kernel_rfl) (by simp) ?_; refine AllReadyIn.cons rfl (fun K hK => ?_) AllReadyIn.nil; go_simp; refine hK _ _ ?_; clear hK K)
      (refine wpAnyIn_ready (rs := [8]) (by kernel_rfl) (by simp) ?_; refine AllReadyIn.cons rfl (fun K hK => ?_) AllReadyIn.nil; go_simp; refine hK _ _ ?_; clear hK K)
      refine wpAnyIn_done (by kernel_rfl) ?_ _
      gi_wp2
      refine ⟨after2_keeps W w.heap.size x _ _ _, fun k hk => after2_heap W w.heap.size x _ _ k (fun e => hk1 (e ▸ hk)) (fun e => hk3 (e ▸ hk)), ?_⟩
      dsimp only
      rw [List.map_append, List.map_cons, List.map_nil, shortSt_snoc]
      exact ⟨⟨(after2_heap W w.heap.size x _ _ _ (by omega) (by omega)).trans hb, after2_arr ha x _ _, (after2_heap W w.heap.size x _ _ _ (by omega) (by omega)).trans ho, after2_box hr x _ _⟩, after2_below hB x _ _⟩
    · go_simp
      refine hK _ _ ?_
      clear hK K
      (refine wpAnyIn_take (i := 4) (v := ?_) rfl rfl (by kernel_rfl) (by kernel_rfl) (by kernel_rfl) (fun _ _ _ h => h) ⟨Or.inl ⟨by rfl, ?_⟩, fun _ => rfl⟩ ?_; rotate_left; focus (intro w; go_simp <;> with_reducible rfl))
      (refine wpAnyIn_take (i := 5) (v := ?_) rfl rfl (by kernel_rfl) (by kernel_rfl) (by kernel_rfl) (fun _ _ _ h => h) ⟨Or.inl ⟨by rfl, ?_⟩, fun _ => rfl⟩ ?_; rotate_left; focus (intro w; go_simp <;> with_reducible rfl))
      (refine wpAnyIn_take (i := 6) (v := ?_) rfl rfl (by kernel_rfl) (by kernel_rfl) (by kernel_rfl) (fun _ _ _ h => h) ⟨Or.inl ⟨by rfl, ?_⟩, fun _ => rfl⟩ ?_; rotate_left; focus (intro w; go_simp <;> with_reducible rfl))
      (refine wpAnyIn_ready (rs := [0]) (by kernel_rfl) (by simp) ?_; refine AllReadyIn.cons rfl (fun K hK => ?_) AllReadyIn.nil; go_simp; refine hK _ _ ?_; clear hK K)
      (refine wpAnyIn_ready (rs := [7]) (by kernel_rfl) (by simp) ?_; refine AllReadyIn.cons rfl (fun K hK => ?_) AllReadyIn.nil; go_simp; refine hK _ _ ?_; clear hK K)
      (refine wpAnyIn_ready (rs := [8]) (by kernel_rfl) (by simp) ?_; refine AllReadyIn.cons rfl (fun K hK => ?_) AllReadyIn.nil; go_simp; refine hK _ _ ?_; clear hK K)
      refine wpAnyIn_done (by kernel_rfl) ?_ _
      gi_wp2
      refine ⟨after2_keeps W w.heap.size x _ _ _, fun k hk => after2_heap W w.heap.size x _ _ k (fun e => hk1 (e ▸ hk)) (fun e => hk3 (e ▸ hk)), ?_⟩
      dsimp only
      rw [List.map_append, List.map_cons, List.map_nil, shortSt_snoc]
      exact ⟨⟨(after2_heap W w.heap.size x _ _ _ (by omega) (by omega)).trans hb, after2_arr ha x _ _, (after2_heap W w.heap.size x _ _ _ (by omega) (by omega)).trans ho, after2_box hr x _ _⟩, after2_below hB x _ _⟩
  case done =>
    rintro D ys W hD rfl ⟨⟨hb, ha, ho, hr⟩, hB⟩ hK
    have hcb := hb.cell
    have hco := ho.cell
    have hcr := hr.cell
    have hco' : W.cell? ⟨w.heap.size + 1 + 1, 0, none⟩ = some (.slice (some ⟨w.heap.size + 1, 0, none⟩) l0.length l0.length) := hco
    have hcr' : W.cell? ⟨w.heap.size + 1 + 1 + 1, 0, none⟩ = some (.int .u64 (shortSt l0 by_ ((came l0.length 0).map Fin.val)).1) := hcr
    have hcoA : ∀ o, (W.alloc o).cell? ⟨w.heap.size + 1 + 1, 0, none⟩ = some (.slice (some ⟨w.heap.size + 1, 0, none⟩) l0.length l0.length) := fun o => (ho.alloc o).cell
    gi_wp2
    gi_region
    all_goals gi_wp2
    have hDW : D < W.heap.size := (Array.getElem?_eq_some_iff.1 hK).1
    have hrev : (came l0.length 0).map Fin.val = (List.range l0.length).reverse := by
      rw [came_all, List.map_reverse]
      congr 1
      apply List.ext_getElem
      · simp
      · intro i h1 h2; simp
    have hend : shortSt l0 by_ ((came l0.length 0).map Fin.val) = shortEnd l0 by_ := by rw [hrev]; rfl
    have hK2 : ∀ o, ((W.alloc o).drew).heap[D]? = some (.deferred (some [])) := fun o => (Below.heap_alloc W o D hDW).trans hK
    have hBa : ∀ o, Below w.heap.size w (W.alloc o).drew := fun o => by
      have h2 := hB.alloc (by have := hB.size; omega) o
      exact ⟨h2.os, h2.tape, h2.output, h2.size, h2.block⟩
    have hWs := hB.size
    refine ⟨by simp, .inl ⟨_, _, rfl, run_takeDeferred (hK2 _), ?_⟩⟩
    refine ⟨_, results_tmp2 rfl _ _ _, w.heap.size + 1, l0.length, W.heap.size, rfl, Nat.le_refl _, by omega, hWs, ?_, ?_, ?_⟩
    · have h1 : Arr (W.alloc (.cells #[.int .u32 ((shortSt l0 by_ ((came l0.length 0).map Fin.val)).1 % 4294967296)] 86)) (w.heap.size + 1) 86 (shortSt l0 by_ ((came l0.length 0).map Fin.val)).2 := ha.kept (World.grownBy_alloc W _ none) (by simp)
      rw [← hend]
      exact (World.putObj_heap_other (by omega)).trans h1
    · have h1 : (W.alloc (.cells #[.int .u32 ((shortSt l0 by_ ((came l0.length 0).map Fin.val)).1 % 4294967296)] 86)).heap[W.heap.size]? = some (.cells #[.int .u32 ((shortSt l0 by_ ((came l0.length 0).map Fin.val)).1 % 4294967296)] 86) := World.alloc_heap_new W _
      rw [← hend]
      exact (World.putObj_heap_other (by omega)).trans h1
    · exact (hBa _).trans (belowK_b (w := w) (Nat.le_refl _) _ D _ _ (by omega) (hK2 _) rfl rfl)
  case stop =>
    rintro D c pre W _ _ h _
    exact h.elim
theorem arr_nums {w : World} {S : Nat → Prop} {B : Nat} {t : TypeId} {l : List Int} (h : Arr w B t l) (hB : S B) : Nums w.heap S .u32 (some ⟨B, 0, none⟩) l := fun _ =>
  ⟨B, 0, (nums .u32 l).toArray, t, (0, 0), rfl, hB, h, fun i hi => by
    show K.row _ _ _ = [_]
    simp [K.row, K.csz, nums, List.take_one, hi]⟩
end Hshort
theorem short_ok {inv : World → Prop} : CallT Tryd.prog 121 [.sl (.int .u32), .int .u32] [.sl (.int .u32), .sl (.int .u32)] inv shortF := by
  intro y r h w fz0 vs hfz hinv hd
  obtain ⟨l0, by_⟩ := y
  obtain ⟨hc, rfl⟩ := cond_some h
  simp only [Bool.and_eq_true, decide_eq_true_eq] at hc
  obtain ⟨h0, h1, h2⟩ := hc
  obtain ⟨v, us, rfl, d1, d2⟩ := unCons hd
  obtain ⟨A0, c0, e0, hc0, hn⟩ := unSl d1
  have e2 := unInt d2
  cases e0
  subst e2
  refine (Hshort.main A0 c0 l0 by_ w fz0 hfz hn hc0 h2 h0 h1).mono fun e w' ⟨B, c, B', he, hcl, hB, hB', a1, a2, hb⟩ => ?_
  subst he
  have hl : (shortEnd l0 by_).2.length = l0.length := shortSt_length _ _ _
  have D1 := slDen (ok := fun b => w.heap.size ≤ b ∧ b < w'.heap.size) (c := c) (by rw [hl]; exact hcl) (Hshort.arr_nums a1 ⟨hB, Hshort.Arr.lt a1⟩)
  have D2 := slDen (ok := fun b => w.heap.size ≤ b ∧ b < w'.heap.size) (l := [(shortEnd l0 by_).1 % 4294967296]) (c := 1) (Nat.le_refl 1) (Hshort.arr_nums a2 ⟨hB', Hshort.Arr.lt a2⟩)
  rw [hl] at D1
  exact K.retT_ok (ts := [.sl (.int .u32), .sl (.int .u32)]) [_, _] (fun b hb => .inr hb) hb rfl (K.denCons D1 D2)
end Go.Proofs.YtcdcijhfjiahkaaDoorR.H
