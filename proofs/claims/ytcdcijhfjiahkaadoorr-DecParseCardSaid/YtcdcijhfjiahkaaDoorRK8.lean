/- The abstract machine: appends, shown against the model's. -/
import Derived.Test.YtcdcijhfjiahkaaDoorRK7
set_option linter.unusedVariables false
set_option linter.unusedSimpArgs false
namespace Go.Proofs.YtcdcijhfjiahkaaDoorR.K
open Go
open Go.RowKit (Below)

section
variable {P : Program} {C : Ctx} (hT : CtxTI P C) {x : Cx} {n0 tok : Nat} (hr : HR x n0) {w : World} (hp : x.hp = w.heap)

/-! ### what a slice holds, read as it lies -/
def SlC (x : Cx) (t : Ty) (ys : List (den t)) (v : Value) : Prop :=
  ∃ a cap, v = .slice a ys.length cap ∧ ys.length ≤ cap ∧ (ys ≠ [] → ∃ b o c e fr, a = some ⟨b, o, none⟩ ∧ x.hp[b]? = some (Obj.cells c e fr) ∧ Rows x.hp x.fz t ys c o)

include hr in
theorem toDen_SlC {av : AV} {v : Value} {t : Ty} {ys : List (den t)} (h : RV x av v) (ho : toDen x.H (.sl t) av = some ys) : SlC x t ys v := by
  have ho' : ofCell (.sl t) (deep x.H av) = some ys := by
    cases av <;> simpa [toDen, isAgg] using ho
  have af : ∀ {tk : Nat} {t' : Ty} {l : List (den t')} {a : Option Addr} {off len cap : Nat}, AF x.H tk t' l → off + len ≤ l.length → len ≤ cap → Place x tk t' a off len cap →
      ofCell (.sl t) (.sl t' ((l.drop off).take len) false) = some ys → SlC x t ys (.slice a len cap) := by
    intro tk t' l a off len cap ha h1 h2 h3 ho
    simp only [ofCell] at ho
    split at ho
    · rename_i he
      subst he
      simp only [Option.some.injEq] at ho; subst ho
      have hlen : ((l.drop off).take len).length = len := by simp; omega
      refine ⟨a, cap, by rw [hlen], by rw [hlen]; exact h2, fun hne => ?_⟩
      have hpos : 0 < len := by
        rcases Nat.eq_zero_or_pos len with h | h
        · subst h; simp at hne
        · exact h
      rcases h3 with ⟨h4, _⟩ | ⟨b, o, c, e, fr, h4, h5, h6, h7⟩
      · omega
      rcases af_deep hr ha with ⟨_, h8⟩ | ⟨b', o', c', e', fr', g1, g2, g3, g4⟩
      · rw [h4] at h8; cases h8
      rw [h4] at g1; cases g1
      refine ⟨b, o + off * csz t', c', e', fr', h5, g2, fun i hi => ?_⟩
      rw [hlen] at hi
      have := g4 (off + i) (by omega)
      have e1 : o + off * csz t' + i * csz t' = o + (off + i) * csz t' := by rw [Nat.add_mul]; omega
      rw [e1]
      simpa using this
    · simp at ho
  cases h with
  | sl t' l f a cap h1 h2 h3 =>
    simp only [deep, ofCell] at ho'
    split at ho'
    · rename_i he
      subst he
      simp only [Option.some.injEq] at ho'; subst ho'
      refine ⟨a, cap, rfl, h1, fun hne => ?_⟩
      obtain ⟨b, o, c, e, fr, g1, g2, g3, g4⟩ := h3 hne
      exact ⟨b, o, c, e, fr, g1, g3, g4⟩
    · simp at ho'
  | nilsl =>
    simp only [deep, ofCell, Option.some.injEq] at ho'; subst ho'
    exact ⟨none, 0, rfl, Nat.le_refl _, fun h => absurd rfl h⟩
  | who tk f a n cap q =>
    simp only [deep] at ho'
    split at ho'
    · rename_i t' l hg
      obtain ⟨g1, g2, g3, g4⟩ := q t' l (.inl hg)
      subst g1
      exact af (.inl hg) (off := 0) (len := l.length) (by simp) g2 g4 (by simpa using ho')
    · rename_i t' l hg
      obtain ⟨g1, g2, g3, g4⟩ := q t' l (.inr hg)
      subst g1
      exact af (.inr hg) (off := 0) (len := l.length) (by simp) g2 g4 (by simpa using ho')
    · simp [ofCell] at ho'
  | ref tk off len f a cap q =>
    simp only [deep] at ho'
    split at ho'
    · rename_i t' l hg
      obtain ⟨g1, g2, g3, g4⟩ := q t' l (.inl hg)
      exact af (.inl hg) g1 g2 g4 ho'
    · rename_i t' l hg
      obtain ⟨g1, g2, g3, g4⟩ := q t' l (.inr hg)
      exact af (.inr hg) g1 g2 g4 ho'
    · simp [ofCell] at ho'
  | _ => simp [deep, ofCell] at ho'

/-- Cells that can be copied: of so many elements. -/
structure News (P : Program) (x : Cx) (w : World) (t : Ty) (ys : List (den t)) (v : Value) (news : List Value) : Prop where
  len : ∀ w', (Builtin.lenOf v).run P w' = .ok ys.length w'
  first : ∀ w', w'.heap = w.heap → (Builtin.firstCells (csz t) ys.length v).run P w' = .ok news.toArray w'
  size : news.length = ys.length * csz t
  rows : Rows x.hp x.fz t ys news.toArray 0

theorem row_toArray (l : List Value) (o n : Nat) : row l.toArray o n = (l.drop o).take n := rfl

include hp in
theorem SlC.news {t : Ty} {ys : List (den t)} {v : Value} (h : SlC x t ys v) (hs : 0 < csz t) : ∃ news, News P x w t ys v news := by
  obtain ⟨a, cap, rfl, hc, hrow⟩ := h
  by_cases hne : ys = []
  · subst hne
    refine ⟨[], fun w' => by simp [Builtin.lenOf], fun w' _ => ?_, by simp, fun i hi => by simp at hi⟩
    cases a <;> simp [Builtin.firstCells, loadCells, loadCellsFrom]
  · obtain ⟨b, o, c, e, fr, rfl, hb, hrows⟩ := hrow hne
    have hpos : 0 < ys.length := List.length_pos_iff.2 hne
    have hbound : o + ys.length * csz t ≤ c.size := by
      have h1 := DeepC.length _ _ _ (hrows (ys.length - 1) (by omega))
      unfold row at h1
      simp at h1
      have : ys.length * csz t = (ys.length - 1) * csz t + csz t := by
        rw [← Nat.succ_mul]; congr 1; omega
      omega
    have hlen : (row c o (ys.length * csz t)).length = ys.length * csz t := row_length hbound
    refine ⟨row c o (ys.length * csz t), fun w' => by simp [Builtin.lenOf], fun w' hw => ?_, hlen, fun i hi => ?_⟩
    · have hb' : w'.heap[b]? = some (Obj.cells c e fr) := by rw [hw, ← hp]; exact hb
      exact run_firstCells_some (P := P) w' (csz t) ys.length ⟨b, o, none⟩ _ cap _ hlen (fun j u hu => by rw [addr_add]; exact range_row hb' j u hu)
    · have := hrows i hi
      have hle : (i + 1) * csz t ≤ ys.length * csz t := Nat.mul_le_mul_right _ hi
      rw [Nat.add_mul] at hle
      have e1 : row (row c o (ys.length * csz t)).toArray (0 + i * csz t) (csz t) = row c (o + i * csz t) (csz t) := by
        rw [row_toArray, Nat.zero_add, row_sub (m := ys.length * csz t) (by omega)]
      rw [e1]; exact this

include hr hp in
theorem newsOf_sound {av : AV} {v : Value} {t : Ty} {ys : List (den t)} (h : RV x av v) (ho : newsOf x.H t av = some ys) (hs : 0 < csz t) : ∃ news, News P x w t ys v news := by
  unfold newsOf at ho
  split at ho
  · rename_i s
    split at ho
    · simp only [Option.some.injEq] at ho; subst ho
      cases h
      refine ⟨s.map fun b => .int .u8 (b.toNat : Int), fun w' => by simp [Builtin.lenOf, ByteArray.size], fun w' _ => ?_, by simp [csz], fun i hi => ?_⟩
      · simp only [Builtin.firstCells, List.length_map]
        have e : (ByteArray.mk s.toArray).extract 0 s.length = ⟨s.toArray⟩ := by
          apply ByteArray.ext
          apply Array.ext'
          simp [ByteArray.data_extract, Array.toList_extract]
        simp [e]
      · simp only [List.length_map] at hi
        simp only [DeepC, csz, Nat.mul_one, Nat.zero_add, List.getElem_map]
        rw [row_toArray]
        have hlt : i < (s.map fun b => Value.int .u8 (b.toNat : Int)).length := by simpa using hi
        rw [List.drop_eq_getElem_cons hlt]
        simp
    · simp at ho
  · exact (toDen_SlC hr h ho).news hp hs

theorem rows_append {hp : Array Obj} {ok : Nat → Prop} {t : Ty} {l1 l2 : List (den t)} {a b : List Value} {r : List Value} (h1 : a.length = l1.length * csz t) (h2 : b.length = l2.length * csz t)
    (k1 : Rows hp ok t l1 a.toArray 0) (k2 : Rows hp ok t l2 b.toArray 0) : Rows hp ok t (l1 ++ l2) (a ++ b ++ r).toArray 0 := by
  intro i hi
  simp only [List.length_append] at hi
  by_cases h : i < l1.length
  · have hle : (i + 1) * csz t ≤ l1.length * csz t := Nat.mul_le_mul_right _ h
    rw [Nat.add_mul] at hle
    rw [List.getElem_append_left h]
    have e : row (a ++ b ++ r).toArray (0 + i * csz t) (csz t) = row a.toArray (0 + i * csz t) (csz t) := by
      apply List.ext_getElem?
      intro k
      rw [row_get, row_get]
      split
      · simp only [List.append_assoc]
        rw [List.getElem?_append_left (by omega)]
      · rfl
    rw [e]; exact k1 i h
  · have hlt : i - l1.length < l2.length := by omega
    rw [List.getElem_append_right (by omega)]
    have hle : (i - l1.length + 1) * csz t ≤ l2.length * csz t := Nat.mul_le_mul_right _ hlt
    rw [Nat.add_mul] at hle
    have hi2 : i * csz t = l1.length * csz t + (i - l1.length) * csz t := by rw [← Nat.add_mul]; congr 1; omega
    have e : row (a ++ b ++ r).toArray (0 + i * csz t) (csz t) = row b.toArray (0 + (i - l1.length) * csz t) (csz t) := by
      apply List.ext_getElem?
      intro k
      rw [row_get, row_get]
      split
      · rename_i hk
        simp only [List.append_assoc]
        rw [List.getElem?_append_right (by omega)]
        rw [List.getElem?_append_left (by omega)]
        congr 1
        omega
      · rfl
    rw [e]; exact k2 _ hlt

/-! ### the model's append -/
theorem run_append_fit {t tx ty e : Nat} {ts : List Nat} {i : TypeInfo} (ht : P.underlying t = some (.slice e)) {dx : TypeDesc} (hx : P.underlying tx = some dx) (hxi : ∀ k, dx ≠ .int k) (hi : P.info? e = some i)
    {base : Option Addr} {sLen sCap n : Nat} {v : Value} {news : List Value} (hlen : ∀ w', (Builtin.lenOf v).run P w' = .ok n w')
    (hfirst : (Builtin.firstCells i.size n v).run P w = .ok news.toArray w) (hfit : sLen + n ≤ sCap) {w' : World}
    (hst : ∀ a, base = some a → (storeCells (a.add (sLen * i.size)) news).run P w = .ok () w') (hno : base = none → w' = w) :
    (Builtin.append_ (t :: tx :: ts).toArray ty #[.slice base sLen sCap, v]).run P w = .ok (.slice base (sLen + n) sCap) w' := by
  have hz : (match dx with
    | .int _ => true
    | _ => false) = false := by cases dx <;> first | rfl | exact absurd rfl (hxi _)
  cases base with
  | none =>
    have := hno rfl
    subst this
    simp [Builtin.append_, run_underlying ht, run_underlying hx, sizeOf, typeInfo, hi, hz, hlen, hfit, hfirst]
  | some a =>
    have := hst a rfl
    simp [Builtin.append_, run_underlying ht, run_underlying hx, sizeOf, typeInfo, hi, hz, hlen, hfit, hfirst, this]

theorem run_append_grown {t tx ty e : Nat} {ts : List Nat} {i : TypeInfo} {z : Value} (ht : P.underlying t = some (.slice e)) {dx : TypeDesc} (hx : P.underlying tx = some dx) (hxi : ∀ k, dx ≠ .int k) (hi : P.info? e = some i)
    (hz : i.zero = some z) {base : Option Addr} {sLen sCap n : Nat} {v : Value} {olds news : List Value} (hlen : ∀ w', (Builtin.lenOf v).run P w' = .ok n w')
    (hfirst : ∀ w', w'.heap = w.heap → (Builtin.firstCells i.size n v).run P w' = .ok news.toArray w')
    (holds : ∀ w', w'.heap = w.heap → (Builtin.firstCells i.size sLen (.slice base sLen sCap)).run P w' = .ok olds.toArray w')
    (hfit : sCap < sLen + n) (hroom : (sLen + n) * i.bytes ≤ 140737488355328) (hby : 1 ≤ i.bytes) :
    (Builtin.append_ (t :: tx :: ts).toArray ty #[.slice base sLen sCap, v]).run P w =
      .ok (.slice (some ⟨w.heap.size, 0, none⟩) (sLen + n) (grownCap w (sLen + n) sCap e))
        (w.drew.alloc (Obj.cells (olds ++ news ++ (Builtin.zeroCells z.cells (grownCap w (sLen + n) sCap e - (sLen + n))).toList).toArray e)) := by
  have hzz : (match dx with
    | .int _ => true
    | _ => false) = false := by cases dx <;> first | rfl | exact absurd rfl (hxi _)
  have hn : ¬ (sLen + n ≤ sCap) := by omega
  have hle : sLen + n ≤ (sLen + n) * i.bytes := Nat.le_mul_of_pos_right _ hby
  have h63' : ¬ (9223372036854775807 < ((sLen : Int) + (n : Int)) ∧ i.bytes = 0) := by omega
  have h48' : ¬ (281474976710656 < Builtin.nextslicecap (sLen + n) sCap * i.bytes) := by
    have := growslice_fits hfit hroom
    omega
  have e1 := hfirst w.drew rfl
  have e2 := holds w.drew rfl
  simp [Builtin.append_, run_underlying ht, run_underlying hx, sizeOf, typeInfo, zeroValue, hi, hz, hzz, hlen, hn, h63', h48', Question.forced, e1, e2, newRow, grownCap]
  congr 2
  apply Array.ext'
  simp

/-! ### the machine's append -/
def delCx (x : Cx) (tk : Nat) : Cx := { x with H := hdel x.H tk }

theorem AF_del {H : Heap} {tk u : Nat} {t : Ty} {l : List (den t)} (h : AF (hdel H tk) u t l) : u ≠ tk ∧ AF H u t l := by
  unfold AF at *
  rw [hget_hdel] at h
  by_cases hu : u = tk
  · rw [if_pos hu] at h; simp at h
  · rw [if_neg hu] at h; exact ⟨hu, h⟩

include hr hp in
theorem del_next (tk : Nat) : Nx x (delCx x tk) n0 tok w w := by
  have E : ∀ S, Ext x (delCx x tk) S := fun S => ⟨fun _ h => ⟨h, rfl⟩, .refl _, fun T _ t l h => ⟨l, (AF_del h).2, rfl, rfl⟩, fun T _ cs h => by
    simp only [delCx, hget_hdel] at h
    split at h
    · cases h
    · exact ⟨cs, h, rfl⟩⟩
  have hg : ∀ T b, hget (delCx x tk).H T = some b → T ≠ tk ∧ hget x.H T = some b := by
    intro T b h
    simp only [delCx, hget_hdel] at h
    split at h
    · cases h
    · rename_i hne; exact ⟨hne, h⟩
  refine ⟨E _, ⟨fun T b h => ?_, fun t1 t2 B h1 h2 => ?_, hr.size⟩, fun b h => .inl h, .refl _ _, hp⟩
  · obtain ⟨_, h⟩ := hg T b h
    have := hr.blk T b h
    cases b with
    | arr t l => exact this
    | fro t l => exact this
    | box cs =>
      obtain ⟨B, c, e, fr, k1, k2, k3, k4, k5, k6, k7⟩ := this
      exact ⟨B, c, e, fr, k1, k2, k3, k4, k5, k6, RVL.mono (E fun _ => True) k7 fun _ _ => trivial⟩
  · have back : ∀ T, Owns (delCx x tk) T B → Owns x T B := by
      rintro T ⟨ho, h⟩
      refine ⟨ho, ?_⟩
      rcases h with ⟨t, l, h⟩ | ⟨cs, h⟩
      · exact .inl ⟨t, l, (hg T _ h).2⟩
      · exact .inr ⟨cs, (hg T _ h).2⟩
    exact hr.inj t1 t2 B (back t1 h1) (back t2 h2)

theorem heapToks_del {H : Heap} {tk T : Nat} (h : T ∈ heapToks (hdel H tk)) : T ∈ heapToks H := by
  induction H with
  | nil => exact h
  | cons p H ih =>
    obtain ⟨u, b⟩ := p
    simp only [hdel] at h
    simp only [heapToks, List.flatMap_cons, List.mem_append] at *
    split at h
    · exact .inr (ih h)
    · simp only [List.flatMap_cons, List.mem_append] at h
      rcases h with h | h
      · exact .inl h
      · exact .inr (ih h)

/-- A new token over memory that no token owns any more, and that is turned. -/
theorem reuse_nextS {b : Nat} (hr : HR x n0) (hp : x.hp = w.heap) (hf : ∀ T ∈ heapToks x.H, T ≠ tok) (hnf : ¬ x.fz b) (hno : ∀ T, ¬ Owns x T b) {w' : World}
    (hoth : ∀ k, k ≠ b → w'.heap[k]? = w.heap[k]?) (hs : w'.heap.size = w.heap.size) (hsz : SameSizes w.heap w'.heap) (hbel : Below n0 w w') {o : Nat} {blk : Blk}
    (hblk : BlkR (newCx x w'.heap tok (some (b, o)) blk) n0 tok blk) : NxS x (newCx x w'.heap tok (some (b, o)) blk) n0 (fun T => T ≠ tok) w w' := by
  have ne : ∀ T, T ≠ tok → T ≠ tok := fun T h => h
  have E : Ext x (newCx x w'.heap tok (some (b, o)) blk) (fun T => T ≠ tok) := by
    refine ⟨fun k hk => ⟨hk, ?_⟩, by rw [hp]; exact hsz, fun T hT t l h => ?_, fun T hT cs h => ?_⟩
    · have : k ≠ b := fun h => hnf (h ▸ hk)
      rw [hp]; exact hoth k this
    · have hn := ne T hT
      simp only [newCx, AF, hget_hput, if_neg hn] at h
      exact ⟨l, h, rfl, by simp [newCx, hn]⟩
    · have hn := ne T hT
      simp only [newCx, hget_hput, if_neg hn] at h
      exact ⟨cs, h, by simp [newCx, hn]⟩
  have hdeep : ∀ (t : Ty) (y : den t) vs, DeepC x.hp x.fz t y vs → DeepC w'.heap x.fz t y vs :=
    fun t y vs h => DeepC.mono (fun k hk => ⟨hk, by rw [hp]; exact hoth k fun h => hnf (h ▸ hk)⟩) t y vs h
  refine ⟨E, ⟨fun T b' hb' => ?_, fun t1 t2 B h1 h2 => ?_, fun B hB => ?_⟩, fun B h => .inl h, hbel, rfl⟩
  · simp only [newCx, hget_hput] at hb'
    split at hb'
    · rename_i hT
      subst hT
      simp only [Option.some.injEq] at hb'; subst hb'
      exact hblk
    · rename_i hT
      have h0 := hr.blk T b' hb'
      obtain ⟨_, hin⟩ := toks_hget _ _ _ hb'
      have hat : ∀ (B : Nat) o, B ≠ b → x.hp[B]? = o → w'.heap[B]? = o := fun B o h k => by rw [hoth B h, ← hp]; exact k
      cases b' with
      | arr t l =>
        rcases h0 with ⟨h1, h2⟩ | ⟨B, o, c, e, fr, h1, h2, h3, h4, h5, h6, h7⟩
        · exact .inl ⟨h1, by simp [newCx, hT, h2]⟩
        · exact .inr ⟨B, o, c, e, fr, by simp [newCx, hT, h1], hat B _ (fun e => hno T (e ▸ ⟨⟨o, h1⟩, .inl ⟨t, l, hb'⟩⟩)) h2, h3, h4, h5, h6, fun i hi => hdeep _ _ _ (h7 i hi)⟩
      | fro t l =>
        rcases h0 with ⟨h1, h2⟩ | ⟨B, o, c, e, fr, h1, h2, h3, h4, h5⟩
        · exact .inl ⟨h1, by simp [newCx, hT, h2]⟩
        · exact .inr ⟨B, o, c, e, fr, by simp [newCx, hT, h1], hat B _ (fun e => hnf (e ▸ h3)) h2, h3, h4, fun i hi => hdeep _ _ _ (h5 i hi)⟩
      | box cs =>
        obtain ⟨B, c, e, fr, h1, h2, h3, h4, h5, h6, h7⟩ := h0
        exact ⟨B, c, e, fr, by simp [newCx, hT, h1], hat B _ (fun e => hno T (e ▸ ⟨⟨0, h1⟩, .inr ⟨cs, hb'⟩⟩)) h2, h3, h4, h5, h6, RVL.mono E h7 fun T' hT' => hf T' (hin T' hT')⟩
  · have key : ∀ T, Owns (newCx x w'.heap tok (some (b, o)) blk) T B → (T = tok ∧ B = b) ∨ (T ≠ tok ∧ Owns x T B) := by
      rintro T ⟨⟨o', ho⟩, h⟩
      by_cases hT : T = tok
      · subst hT
        simp [newCx] at ho
        exact .inl ⟨rfl, ho.1.symm⟩
      · simp only [newCx, if_neg hT] at ho
        simp only [newCx, hget_hput, if_neg hT] at h
        exact .inr ⟨hT, ⟨o', ho⟩, h⟩
    rcases key t1 h1 with ⟨a1, a2⟩ | ⟨a1, a2⟩ <;> rcases key t2 h2 with ⟨b1, b2⟩ | ⟨b1, b2⟩
    · rw [a1, b1]
    · subst a2; exact absurd b2 (hno t2)
    · subst b2; exact absurd a2 (hno t1)
    · exact hr.inj t1 t2 B a2 b2
  · have := hr.size B hB
    rw [hp] at this
    show B < w'.heap.size
    omega

theorem reuse_next {b : Nat} (hr : HR x n0) (hp : x.hp = w.heap) (hf : ∀ T ∈ heapToks x.H, ¬ InB tok T) (hnf : ¬ x.fz b) (hno : ∀ T, ¬ Owns x T b) {w' : World}
    (hoth : ∀ k, k ≠ b → w'.heap[k]? = w.heap[k]?) (hs : w'.heap.size = w.heap.size) (hsz : SameSizes w.heap w'.heap) (hbel : Below n0 w w') {o : Nat} {blk : Blk}
    (hblk : BlkR (newCx x w'.heap tok (some (b, o)) blk) n0 tok blk) : Nx x (newCx x w'.heap tok (some (b, o)) blk) n0 tok w w' :=
  (reuse_nextS hr hp (fun T hT => inB_ne (hf T hT)) hnf hno hoth hs hsz hbel hblk).weaken fun T h => inB_ne h

end
end Go.Proofs.YtcdcijhfjiahkaaDoorR.K
