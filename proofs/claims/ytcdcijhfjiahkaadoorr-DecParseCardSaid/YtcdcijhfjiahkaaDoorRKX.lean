/- The abstract machine: functions that are laid from outside, by the shelf's contracts of Go's library. -/
import Derived.Test.YtcdcijhfjiahkaaDoorRKH
import Derived.Test.YtcdcijhfjiahkaaDoorRShelf
import Derived.WalkSmall
import Derived.Lib.Repeat
import Derived.Lib.TrimByte
import Derived.Lib.BitFns
import Derived.Lib.Split
import Derived.Lib.Join
import Derived.Lib.IndexMore
set_option linter.unusedVariables false
set_option linter.unusedSimpArgs false
namespace Go.Proofs.YtcdcijhfjiahkaaDoorR.K
open Go
open Go.RowKit (Below)

/-- One function's contract. -/
def ExtAt (P : Program) (C : Ctx) (i : Nat) (g : den (tyL (C.pts i)) → Option (den (tyL (C.rts i)))) : Prop :=
  ∀ y r, g y = some r → ∀ (w : World) (fz0 : Nat → Prop) (vs : List Value), (∀ b, fz0 b → b < w.heap.size) → C.inv w → DenL w.heap fz0 (C.pts i) y vs →
    Calls P (C.fid i) vs.toArray w (RetE C w fz0 i r)

def lookE {A : Nat → Type} : List ((j : Nat) × A j) → (i : Nat) → Option (A i)
  | [], _ => none
  | ⟨j, f⟩ :: l, i => if h : j = i then some (h ▸ f) else lookE l i

theorem lookE_all {A : Nat → Type} {Q : (i : Nat) → A i → Prop} : ∀ {l : List ((j : Nat) × A j)}, (∀ p ∈ l, Q p.1 p.2) → ∀ i g, lookE l i = some g → Q i g
  | [], _, i, g, h => by cases h
  | ⟨j, f⟩ :: l, hl, i, g, h => by
    simp only [lookE] at h
    split at h
    · rename_i e
      subst e
      cases h
      exact hl _ (List.mem_cons_self ..)
    · exact lookE_all (fun p hp => hl p (List.mem_cons_of_mem _ hp)) i g h

theorem allE_nil {A : Nat → Type} {Q : (i : Nat) → A i → Prop} : ∀ p ∈ ([] : List ((j : Nat) × A j)), Q p.1 p.2 := fun p h => by cases h
theorem allE_cons {A : Nat → Type} {Q : (i : Nat) → A i → Prop} {j : Nat} {f : A j} {l : List ((j : Nat) × A j)} (h : Q j f) (hl : ∀ p ∈ l, Q p.1 p.2) : ∀ p ∈ (⟨j, f⟩ :: l : List ((j : Nat) × A j)), Q p.1 p.2 := fun p hp => by
  rcases List.mem_cons.1 hp with rfl | hp
  · exact h
  · exact hl p hp

theorem ext_of {P : Program} {C : Ctx} {l : List ((j : Nat) × (den (tyL (C.pts j)) → Option (den (tyL (C.rts j)))))} (he : C.ext = lookE l) (h : ∀ p ∈ l, ExtAt P C p.1 p.2) : ExtOk P C := by
  intro i g hg y r hy w fz0 vs hfz hfn hinv hd
  rw [he] at hg
  exact lookE_all (Q := ExtAt P C) h i g hg y r hy w fz0 vs hfz hinv hd

/-- A result that shares no memory, or what was there. -/
theorem retE_plain {C : Ctx} {i : Nat} {r : den (tyL (C.rts i))} {w w' : World} {fz0 : Nat → Prop} {vs : List Value} (hb : Below w.heap.size w w') (ho : hasOwn (tyL (C.rts i)) = false) (hd : DenL w'.heap fz0 (C.rts i) r vs) :
    RetE C w fz0 i r (.returned (oneV vs)) w' :=
  ⟨_, rfl, hb, [], fz0, vs, fun b h => .inl h, List.nodup_nil, (fun b h => by cases h), rfl, plain_ResL _ ho hd⟩

def bs (l : List UInt8) : ByteArray := ⟨l.toArray⟩
theorem bs_size (l : List UInt8) : (bs l).size = l.length := by simp [bs, ByteArray.size]

/-- A slice of texts, in memory. -/
theorem strs_cells {w : World} {ok : Nat → Prop} {b o : Nat} {c : Array Value} {e : TypeId} {fr : Nat × Nat} {l : List (List UInt8)} (hb : w.heap[b]? = some (Obj.cells c e fr)) (h : ∀ i (h : i < l.length), DeepC w.heap ok .str l[i] (row c (o + i * 1) 1)) :
    ∀ (j : Nat) x, (l.map bs)[j]? = some x → w.cell? ⟨b, o + j, none⟩ = some (.string x) := by
  intro j x hx
  have hj : j < l.length := by
    rcases Nat.lt_or_ge j l.length with h | h
    · exact h
    · rw [List.getElem?_eq_none (by simpa using h)] at hx; cases hx
  have hx' : x = bs l[j] := by
    rw [List.getElem?_map, List.getElem?_eq_getElem hj] at hx
    simpa using hx.symm
  subst hx'
  have hr : row c (o + j * 1) 1 = [.string ⟨l[j].toArray⟩] := h j hj
  rw [Nat.mul_one] at hr
  simp only [World.cell?, hb]
  unfold row at hr
  have : (c.toList.drop (o + j))[0]? = some (.string ⟨l[j].toArray⟩) := by
    have h2 : ((c.toList.drop (o + j)).take 1)[0]? = some (.string ⟨l[j].toArray⟩) := by rw [hr]; rfl
    simpa [List.getElem?_take] using h2
  rw [List.getElem?_drop] at this
  unfold bs
  simpa using this

/-- A function's contract, by its types alone. -/
def RetT (ts : List Ty) (w : World) (fz0 : Nat → Prop) (r : den (tyL ts)) (e : Ending) (w' : World) : Prop :=
  ∃ v, e = .returned v ∧ Below w.heap.size w w' ∧ ∃ (ow : List Nat) (ok : Nat → Prop) (vs : List Value), (∀ b, ok b → fz0 b ∨ (w.heap.size ≤ b ∧ b < w'.heap.size)) ∧ ow.Nodup ∧ (∀ b ∈ ow, w.heap.size ≤ b ∧ ¬ ok b) ∧
    v = oneV vs ∧ ResL w'.heap ok ts r vs ow

def CallT (P : Program) (f : Nat) (ps rs : List Ty) (inv : World → Prop) (g : den (tyL ps) → Option (den (tyL rs))) : Prop :=
  ∀ y r, g y = some r → ∀ (w : World) (fz0 : Nat → Prop) (vs : List Value), (∀ b, fz0 b → b < w.heap.size) → inv w → DenL w.heap fz0 ps y vs → Calls P f vs.toArray w (RetT rs w fz0 r)

theorem ext_at {P : Program} {C : Ctx} {i : Nat} {g : den (tyL (C.pts i)) → Option (den (tyL (C.rts i)))} (h : CallT P (C.fid i) (C.pts i) (C.rts i) C.inv g) : ExtAt P C i g :=
  fun y r hy w fz0 vs hfz hinv hd => (h y r hy w fz0 vs hfz hinv hd).mono fun e w' ⟨v, he, hb, hr⟩ => ⟨v, he, hb, hr⟩

theorem retT_plain {ts : List Ty} {r : den (tyL ts)} {w w' : World} {fz0 : Nat → Prop} (vs : List Value) (hb : Below w.heap.size w w') (ho : hasOwn (tyL ts) = false) (hd : DenL w'.heap fz0 ts r vs) :
    RetT ts w fz0 r (.returned (oneV vs)) w' :=
  ⟨_, rfl, hb, [], fz0, vs, fun b h => .inl h, List.nodup_nil, (fun b h => by cases h), rfl, plain_ResL _ ho hd⟩

def joinF (y : List (List UInt8) × List UInt8) : Option (List UInt8) :=
  cond (decide (y.1.length ≤ 140737488355328) && decide ((Lib.join y.1 y.2).length ≤ 140737488355328)) (some (Lib.join y.1 y.2)) none

theorem map_bs (l : List (List UInt8)) : (l.map bs).map (fun b => b.data.toList) = l := by
  induction l with
  | nil => rfl
  | cons x l ih => simp only [List.map_cons, ih]; simp [bs]

theorem cond_some {α : Type} {c : Bool} {a r : α} (h : cond c (some a) none = some r) : c = true ∧ a = r := by
  cases c with
  | true => exact ⟨rfl, Option.some.inj h⟩
  | false => cases h

theorem denStr {hp : Array Obj} {ok : Nat → Prop} (l : List UInt8) : DenL hp ok [.str] l [.string ⟨l.toArray⟩] := by
  show ∃ v, _ = [v] ∧ DenV hp ok .str l v
  refine ⟨_, rfl, ?_⟩
  show Ty.str ≠ .unit ∧ DeepC hp ok .str l _
  exact ⟨by simp, rfl⟩

theorem denBool {hp : Array Obj} {ok : Nat → Prop} (b : Bool) : DenL hp ok [.bool] b [.bool b] := by
  show ∃ v, _ = [v] ∧ DenV hp ok .bool b v
  refine ⟨_, rfl, ?_⟩
  show Ty.bool ≠ .unit ∧ DeepC hp ok .bool b _
  exact ⟨by simp, rfl⟩

theorem denInt {hp : Array Obj} {ok : Nat → Prop} (k : IntKind) (n : Int) : DenL hp ok [.int k] n [.int k n] := by
  show ∃ v, _ = [v] ∧ DenV hp ok (.int k) n v
  refine ⟨_, rfl, ?_⟩
  show Ty.int k ≠ .unit ∧ DeepC hp ok (.int k) n _
  exact ⟨by simp, rfl⟩

theorem denCons {hp : Array Obj} {ok : Nat → Prop} {t u : Ty} {ts : List Ty} {x : den t} {v : Value} {y : den (tyL (u :: ts))} {vs : List Value} (h1 : DenL hp ok [t] x [v]) (h2 : DenL hp ok (u :: ts) y vs) : DenL hp ok (t :: u :: ts) (x, y) (v :: vs) := by
  have h1 : ∃ v', [v] = [v'] ∧ DenV hp ok t x v' := h1
  obtain ⟨v', e, h1⟩ := h1
  cases e
  show ∃ a b, v :: vs = a :: b ∧ DenV hp ok t x a ∧ DenL hp ok (u :: ts) y b
  exact ⟨v, vs, rfl, h1, h2⟩

theorem unStr {hp : Array Obj} {ok : Nat → Prop} {l : List UInt8} {vs : List Value} (h : DenL hp ok [.str] l vs) : vs = [.string ⟨l.toArray⟩] := by
  have hE : ∃ v, vs = [v] ∧ DenV hp ok .str l v := h
  obtain ⟨v, e0, h1⟩ := hE
  have h2 : Ty.str ≠ .unit ∧ DeepC hp ok .str l [v] := h1
  exact e0.trans h2.2

theorem unInt {hp : Array Obj} {ok : Nat → Prop} {k : IntKind} {n : Int} {vs : List Value} (h : DenL hp ok [.int k] n vs) : vs = [.int k n] := by
  have hE : ∃ v, vs = [v] ∧ DenV hp ok (.int k) n v := h
  obtain ⟨v, e0, h1⟩ := hE
  have h2 : Ty.int k ≠ .unit ∧ DeepC hp ok (.int k) n [v] := h1
  exact e0.trans h2.2

theorem unCons {hp : Array Obj} {ok : Nat → Prop} {t u : Ty} {ts : List Ty} {y : den (tyL (t :: u :: ts))} {vs : List Value} (h : DenL hp ok (t :: u :: ts) y vs) : ∃ v us, vs = v :: us ∧ DenL hp ok [t] y.1 [v] ∧ DenL hp ok (u :: ts) y.2 us := by
  rw [DenL_2] at h
  obtain ⟨v, us, rfl, h1, h2⟩ := h
  exact ⟨v, us, rfl, (show ∃ v', [v] = [v'] ∧ DenV hp ok t y.1 v' from ⟨v, rfl, h1⟩), h2⟩

theorem join_ok {inv : World → Prop} : CallT Tryd.prog 116 [.sl .str, .str] [.str] inv joinF := by
  intro y r h w fz0 vs hfz _ hd
  obtain ⟨hc, rfl⟩ := cond_some h
  simp only [Bool.and_eq_true, decide_eq_true_eq] at hc
  obtain ⟨h1, h2⟩ := hc
  rw [DenL_2] at hd
  obtain ⟨v1, vs', rfl, d1, d2⟩ := hd
  rw [DenL_1] at d2
  obtain ⟨v2, rfl, d2⟩ := d2
  obtain ⟨_, a, cap, e1, hcap, hrow⟩ := d1
  obtain ⟨_, e2⟩ := d2
  cases e1
  cases e2
  by_cases hl : y.1 = []
  · have := Tryd.strings_Join_none a cap (bs y.2) w
    rw [hl]
    refine this.mono fun e w' ⟨he, hw⟩ => ?_
    subst he; subst hw
    exact retT_plain (ts := [.str]) (r := ([] : List UInt8)) [.string ⟨#[]⟩] (.refl _ _) rfl (denStr [])
  · obtain ⟨b, o, c, e, fr, rfl, hok, hb, hi⟩ := hrow hl
    have := Tryd.strings_Join b o cap (y.1.map bs) (bs y.2) w (strs_cells hb hi) (hfz b hok) (by simpa using h1) (by simpa using hcap) (by rw [map_bs]; exact h2)
    rw [map_bs, List.length_map] at this
    refine this.mono fun e w' ⟨he, hw⟩ => ?_
    subst he
    exact retT_plain (ts := [.str]) (r := Lib.join y.1 y.2) [.string ⟨(Lib.join y.1 y.2).toArray⟩] hw rfl (denStr _)
/-- The word that strings.Index reads. -/
def MaxLen (w : World) : Prop := ∃ m, w.cell? ⟨0, 0, none⟩ = some (.int .i64 m)
theorem maxLen_keeps : ∀ w w', MaxLen w → Below w.heap.size w w' → MaxLen w' := fun w w' ⟨m, h⟩ hb => by
  refine ⟨m, (hb.cell (p := ⟨0, 0, none⟩) ?_).trans h⟩
  unfold World.cell? at h
  split at h
  · rename_i hb
    exact lt_size hb
  · cases h
def cutF (y : List UInt8 × List UInt8) : Option (List UInt8 × List UInt8 × Bool) :=
  cond (decide (y.1.length < 4294967281)) (some (Lib.cut y.1 y.2)) none

theorem cut_ok {inv : World → Prop} (hi : ∀ w, inv w → MaxLen w) : CallT Tryd.prog 96 [.str, .str] [.str, .str, .bool] inv cutF := by
  intro y r h w fz0 vs hfz hinv hd
  obtain ⟨hc, rfl⟩ := cond_some h
  simp only [decide_eq_true_eq] at hc
  obtain ⟨v, us, rfl, d1, d2⟩ := unCons hd
  have e1 := unStr d1
  have e2 := unStr d2
  cases e1
  subst e2
  obtain ⟨m, hm⟩ := hi w hinv
  have := Tryd.strings_Cut (bs y.1) (bs y.2) m w (by simpa [bs, ByteArray.size] using hc) hm
  refine this.mono fun e w' ⟨he, n, hw⟩ => ?_
  subst he; subst hw
  exact retT_plain (ts := [.str, .str, .bool]) (r := Lib.cut y.1 y.2) [_, _, _] (below_drewN (.refl _ _) n) rfl (denCons (denStr _) (denCons (denStr _) (denBool _)))
def splitF (y : List UInt8 × List UInt8) : Option (List (List UInt8)) :=
  cond (decide (y.1.length < 4294967281) && decide (1 ≤ y.2.length)) (some ((Lib.splitB (bs y.2) 0 (Lib.countB (bs y.1) (bs y.2)) (bs y.1)).map fun b => b.data.toList)) none

theorem split_len (sep : ByteArray) (h1 : 1 ≤ sep.size) : ∀ (n : Nat) (s : ByteArray), s.size ≤ n → (Lib.splitB sep 0 (Lib.countB s sep) s).length = Lib.countB s sep + 1 := by
  intro n
  induction n with
  | zero =>
    intro s hs
    have := Lib.countB_le sep h1 _ s (Nat.le_refl _)
    have h0 : Lib.countB s sep = 0 := by omega
    rw [h0]; rfl
  | succ n ih =>
    intro s hs
    by_cases hm : Lib.indexB s sep = -1
    · rw [Lib.countB_miss s sep hm]; rfl
    · have hge : -1 ≤ Lib.indexB s sep := Lib.index_ge _ _
      obtain ⟨i, hi⟩ : ∃ i : Nat, Lib.indexB s sep = i := ⟨(Lib.indexB s sep).toNat, by omega⟩
      have hc := Lib.countB_hit s sep i h1 hi
      rw [hc, Nat.add_comm 1, Lib.splitB_hit sep 0 _ s i hi]
      by_cases hz : s.size = 0
      · have := Lib.countB_le sep h1 _ s (Nat.le_refl _)
        omega
      · have hsz : (s.extract (i + sep.size) s.size).size ≤ n := by
          rw [ByteArray.size_extract]
          omega
        simp [ih _ hsz]

theorem split_ok {inv : World → Prop} (hi : ∀ w, inv w → MaxLen w) : CallT Tryd.prog 119 [.str, .str] [.own .str] inv splitF := by
  intro y r h w fz0 vs hfz hinv hd
  obtain ⟨hc, rfl⟩ := cond_some h
  simp only [Bool.and_eq_true, decide_eq_true_eq] at hc
  obtain ⟨h1, h2⟩ := hc
  obtain ⟨v, us, rfl, d1, d2⟩ := unCons hd
  have e1 := unStr d1
  have e2 := unStr d2
  cases e1
  subst e2
  obtain ⟨m, hm⟩ := hi w hinv
  have h2' : 1 ≤ (bs y.2).size := Nat.le_trans h2 (Nat.le_of_eq (bs_size y.2).symm)
  have := Tryd.strings_Split (bs y.1) (bs y.2) m w (by simpa [bs, ByteArray.size] using h1) hm h2'
  have hlen := split_len (bs y.2) h2' _ (bs y.1) (Nat.le_refl _)
  refine this.mono fun e w' ⟨he, hw⟩ => ?_
  subst he; subst hw
  refine ⟨_, rfl, Below.alloc (.refl _ _) (Nat.le_refl _) _, [w.heap.size], fz0, [_], fun b h => .inl h, by simp, fun b hb => ?_, rfl, ?_⟩
  · simp only [List.mem_singleton] at hb; subst hb
    exact ⟨Nat.le_refl _, fun h => Nat.lt_irrefl _ (hfz _ h)⟩
  · generalize hL : Lib.splitB (bs y.2) 0 (Lib.countB (bs y.1) (bs y.2)) (bs y.1) = L at hlen
    rw [← hlen]
    show ∃ v, [_] = [v] ∧ ResV _ fz0 (.own .str) (L.map fun b => b.data.toList) v [w.heap.size]
    refine ⟨_, rfl, ?_⟩
    show Ty.own .str ≠ .unit ∧ ∃ a cap, _ = [Value.slice a (L.map fun b => b.data.toList).length cap] ∧ _
    refine ⟨by simp, some ⟨w.heap.size, 0, none⟩, L.length, by simp, by simp, .inr ⟨w.heap.size, 0, (L.map Value.string).toArray, 9, (0, 0), rfl, rfl, ?_, ?_, ?_, ?_⟩⟩
    · show (w.heap.push _)[w.heap.size]? = _
      simp
    · intro o _ h; exact absurd h.2 (Nat.not_lt_zero _)
    · simp [csz]
    · intro i hi
      have hi' : i < L.length := by simpa using hi
      show row _ _ _ = [_]
      simp [row, csz, List.take_one, hi']
def trimLeftF (y : List UInt8 × List UInt8) : Option (List UInt8) :=
  match y.2 with
  | [c] => cond (decide (c.toNat < 128)) (some (Lib.trimLeftB y.1 c)) none
  | _ => none
theorem trimLeft_ok {inv : World → Prop} : CallT Tryd.prog 76 [.str, .str] [.str] inv trimLeftF := by
  intro y r h w fz0 vs hfz hinv hd
  obtain ⟨s, cs⟩ := y
  unfold trimLeftF at h
  split at h
  · rename_i c hcs
    obtain ⟨hc, rfl⟩ := cond_some h
    simp only [decide_eq_true_eq] at hc
    dsimp only at hcs
    subst hcs
    obtain ⟨v, us, rfl, d1, d2⟩ := unCons hd
    have e1 := unStr d1
    have e2 := unStr d2
    cases e1
    subst e2
    have := Tryd.strings_TrimLeft_one (bs s) c hc w
    refine this.mono fun e w' ⟨he, hw⟩ => ?_
    subst he; subst hw
    exact retT_plain (ts := [.str]) [_] (.refl _ _) rfl (denStr _)
  · cases h
def lz32F (x : Int) : Option Int := cond (decide (0 ≤ x) && decide (x ≤ 4294967295)) (some (32 - (Lib.bitLen x.toNat : Int))) none
theorem lz32_ok {inv : World → Prop} : CallT Tryd.prog 135 [.int .u32] [.int .i64] inv lz32F := by
  intro y r h w fz0 vs hfz hinv hd
  obtain ⟨hc, rfl⟩ := cond_some h
  simp only [Bool.and_eq_true, decide_eq_true_eq] at hc
  have e1 := unInt hd
  subst e1
  refine (Tryd.bits_LeadingZeros32 y w hc.1 hc.2).mono fun e w' ⟨he, hw⟩ => ?_
  subst he; subst hw
  exact retT_plain (ts := [.int .i64]) [_] (.refl _ _) rfl (denInt _ _)
def len32F (x : Int) : Option Int := cond (decide (0 ≤ x) && decide (x ≤ 4294967295)) (some (Lib.bitLen x.toNat : Int)) none
theorem len32_ok {inv : World → Prop} : CallT Tryd.prog 77 [.int .u32] [.int .i64] inv len32F := by
  intro y r h w fz0 vs hfz hinv hd
  obtain ⟨hc, rfl⟩ := cond_some h
  simp only [Bool.and_eq_true, decide_eq_true_eq] at hc
  have e1 := unInt hd
  subst e1
  refine (Tryd.bits_Len32 y w hc.1 hc.2).mono fun e w' ⟨he, hw⟩ => ?_
  subst he; subst hw
  exact retT_plain (ts := [.int .i64]) [_] (.refl _ _) rfl (denInt _ _)
def len64F (x : Int) : Option Int := cond (decide (0 ≤ x) && decide (x ≤ 18446744073709551615)) (some (Lib.bitLen x.toNat : Int)) none
def repeatF (y : List UInt8 × Int) : Option (List UInt8) := cond (decide (0 ≤ y.2) && (decide (y.2 ≤ 9223372036854775807) && decide (y.1.length * y.2.toNat ≤ 140737488355328))) (some (Lib.repeatL y.1 y.2.toNat)) none
end Go.Proofs.YtcdcijhfjiahkaaDoorR.K
