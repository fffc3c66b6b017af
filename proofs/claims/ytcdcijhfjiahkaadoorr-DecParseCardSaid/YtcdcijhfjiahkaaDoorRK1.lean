/- The abstract machine, what its values stand for: relations to the model's values and memory, and how they are kept. -/
import Derived.Test.YtcdcijhfjiahkaaDoorRK0
import Derived.Below
set_option linter.unusedVariables false
namespace Go.Proofs.YtcdcijhfjiahkaaDoorR.K
open Go
open Go.RowKit (Below)

def row (c : Array Value) (o n : Nat) : List Value := (c.toList.drop o).take n

theorem row_length {c : Array Value} {o n : Nat} (h : o + n ≤ c.size) : (row c o n).length = n := by
  simp [row]; omega

def RowR {α : Type} (hp : Array Obj) (ok : Nat → Prop) (n : Nat) (R : α → List Value → Prop) (l : List α) (a : Option Addr) : Prop :=
  l ≠ [] → ∃ b o c e fr, a = some ⟨b, o, none⟩ ∧ ok b ∧ hp[b]? = some (Obj.cells c e fr) ∧ ∀ i (h : i < l.length), R l[i] (row c (o + i * n) n)

def DeepC (hp : Array Obj) (ok : Nat → Prop) : (t : Ty) → den t → List Value → Prop
  | .unit, _, vs => vs = []
  | .bool, b, vs => vs = [.bool b]
  | .int k, n, vs => vs = [.int k n]
  | .str, s, vs => vs = [.string ⟨s.toArray⟩]
  | .sl t, l, vs => ∃ a cap, vs = [.slice a (List.length l) cap] ∧ List.length l ≤ cap ∧ RowR hp ok (csz t) (DeepC hp ok t) l a
  | .own t, l, vs => ∃ a cap, vs = [.slice a (List.length l) cap] ∧ List.length l ≤ cap ∧ RowR hp ok (csz t) (DeepC hp ok t) l a
  | .pair a b, x, vs => ∃ v1 v2, vs = v1 ++ v2 ∧ DeepC hp ok a x.1 v1 ∧ DeepC hp ok b x.2 v2
  | .one t, x, vs => DeepC hp ok t x vs
  | .fn f, _, vs => vs = [.func (.func f) #[] #[]]

theorem DeepC.length {hp : Array Obj} {ok : Nat → Prop} : ∀ (t : Ty) (x : den t) (vs : List Value), DeepC hp ok t x vs → vs.length = csz t
  | .unit, _, _, h => by cases h; rfl
  | .bool, _, _, h => by cases h; rfl
  | .int _, _, _, h => by cases h; rfl
  | .str, _, _, h => by cases h; rfl
  | .sl _, _, _, h => by obtain ⟨_, _, rfl, _⟩ := h; rfl
  | .own _, _, _, h => by obtain ⟨_, _, rfl, _⟩ := h; rfl
  | .pair a b, x, _, h => by
    obtain ⟨v1, v2, rfl, h1, h2⟩ := h
    simp [csz, DeepC.length a _ _ h1, DeepC.length b _ _ h2]
  | .one t, x, _, h => by simp only [csz]; exact DeepC.length t x _ h
  | .fn _, _, _, h => by cases h; rfl

theorem DeepC.mono {hp hp' : Array Obj} {ok ok' : Nat → Prop} (H : ∀ b, ok b → ok' b ∧ hp'[b]? = hp[b]?) :
    ∀ (t : Ty) (x : den t) (vs : List Value), DeepC hp ok t x vs → DeepC hp' ok' t x vs
  | .unit, _, _, h => h
  | .bool, _, _, h => h
  | .int _, _, _, h => h
  | .str, _, _, h => h
  | .sl t, l, _, h => by
    obtain ⟨a, cap, rfl, hc, hr⟩ := h
    refine ⟨a, cap, rfl, hc, fun hl => ?_⟩
    obtain ⟨b, o, c, e, fr, ha, hok, hb, hi⟩ := hr hl
    exact ⟨b, o, c, e, fr, ha, (H b hok).1, by rw [(H b hok).2]; exact hb, fun i h => DeepC.mono H t _ _ (hi i h)⟩
  | .own t, l, _, h => by
    obtain ⟨a, cap, rfl, hc, hr⟩ := h
    refine ⟨a, cap, rfl, hc, fun hl => ?_⟩
    obtain ⟨b, o, c, e, fr, ha, hok, hb, hi⟩ := hr hl
    exact ⟨b, o, c, e, fr, ha, (H b hok).1, by rw [(H b hok).2]; exact hb, fun i h => DeepC.mono H t _ _ (hi i h)⟩
  | .pair a b, x, _, h => by
    obtain ⟨v1, v2, rfl, h1, h2⟩ := h
    exact ⟨v1, v2, rfl, DeepC.mono H a _ _ h1, DeepC.mono H b _ _ h2⟩
  | .one t, x, _, h => DeepC.mono (ok := ok) H t x _ h
  | .fn _, _, _, h => h

theorem RowR.mono {hp hp' : Array Obj} {ok ok' : Nat → Prop} (H : ∀ b, ok b → ok' b ∧ hp'[b]? = hp[b]?) {t : Ty} {l : List (den t)} {a : Option Addr}
    (h : RowR hp ok (csz t) (DeepC hp ok t) l a) : RowR hp' ok' (csz t) (DeepC hp' ok' t) l a := fun hl => by
  obtain ⟨b, o, c, e, fr, ha, hok, hb, hi⟩ := h hl
  exact ⟨b, o, c, e, fr, ha, (H b hok).1, by rw [(H b hok).2]; exact hb, fun i h => DeepC.mono H t _ _ (hi i h)⟩

/-! ### values -/
structure Cx where
  hp : Array Obj
  fz : Nat → Prop            -- blocks that are not turned any more
  m : Nat → Option (Nat × Nat)   -- where a token's cells lie
  H : Heap

def AF (H : Heap) (tok : Nat) (t : Ty) (l : List (den t)) : Prop := hget H tok = some (.arr t l) ∨ hget H tok = some (.fro t l)

def Place (x : Cx) (tok : Nat) (t : Ty) (a : Option Addr) (off len cap : Nat) : Prop :=
  (len = 0 ∧ cap = 0) ∨ ∃ b o c e fr, x.m tok = some (b, o) ∧ a = some ⟨b, o + off * csz t, none⟩ ∧ x.hp[b]? = some (Obj.cells c e fr) ∧ o + (off + cap) * csz t ≤ c.size

mutual
inductive RV (x : Cx) : AV → Value → Prop
  | undef (v : Value) : RV x .undef v
  | bool (b : Bool) : RV x (.bool b) (.bool b)
  | int (k : IntKind) (n : Int) : RV x (.int k n) (.int k n)
  | str (s : List UInt8) : RV x (.str s) (.string ⟨s.toArray⟩)
  | sl (t : Ty) (l : List (den t)) (f : Bool) (a : Option Addr) (cap : Nat) : l.length ≤ cap → (f = true → cap = l.length) →
      RowR x.hp x.fz (csz t) (DeepC x.hp x.fz t) l a → RV x (.sl t l f) (.slice a l.length cap)
  | nilsl : RV x .nilsl (.slice none 0 0)
  | who (tok : Nat) (f : Bool) (a : Option Addr) (n cap : Nat) :
      (∀ t l, AF x.H tok t l → n = l.length ∧ n ≤ cap ∧ (f = true → cap = n) ∧ Place x tok t a 0 n cap) → RV x (.who tok f) (.slice a n cap)
  | ref (tok off len : Nat) (f : Bool) (a : Option Addr) (cap : Nat) :
      (∀ t l, AF x.H tok t l → off + len ≤ l.length ∧ len ≤ cap ∧ (f = true → cap = len) ∧ Place x tok t a off len cap) → RV x (.ref tok off len f) (.slice a len cap)
  | ptr (tok off : Nat) (ad : Addr) : (∀ cs, hget x.H tok = some (.box cs) → ∃ b, x.m tok = some (b, 0) ∧ ad = ⟨b, off, none⟩) →
      RV x (.ptr tok off) (.pointer (some ad))
  | eptr (tok i off : Nat) (ad : Addr) : (∀ t l, AF x.H tok t l → i < l.length ∧ ∃ b o, x.m tok = some (b, o) ∧ ad = ⟨b, o + i * csz t + off, none⟩) →
      RV x (.eptr tok i off) (.pointer (some ad))
  | rptr (t : Ty) (y : den t) (off b o : Nat) (c : Array Value) (e : TypeId) (fr : Nat × Nat) : x.fz b → x.hp[b]? = some (Obj.cells c e fr) →
      DeepC x.hp x.fz t y (row c o (csz t)) → RV x (.rptr t y off) (.pointer (some ⟨b, o + off, none⟩))
  | func (f : Nat) (as bs : List AV) (vs us : List Value) : RVL x as vs → RVL x bs us → RV x (.func f as bs) (.func (.func f) vs.toArray us.toArray)
  | agg (cs : List AV) (vs : List Value) : RVL x cs vs → RV x (.agg cs) (.agg vs.toArray)
  | tup (cs : List AV) (vs : List Value) : RVL x cs vs → RV x (.tup cs) (.tuple vs.toArray)
  | cst (v : Value) : RV x (.cst v) v
inductive RVL (x : Cx) : List AV → List Value → Prop
  | nil : RVL x [] []
  | cons (c : AV) (v : Value) (cs : List AV) (vs : List Value) : RV x c v → RVL x cs vs → RVL x (c :: cs) (v :: vs)
end

theorem RVL.length {x : Cx} : ∀ {cs : List AV} {vs : List Value}, RVL x cs vs → cs.length = vs.length
  | _, _, .nil => rfl
  | _, _, .cons _ _ _ _ _ h => by simp [RVL.length h]

theorem RVL.append {x : Cx} : ∀ {cs ds : List AV} {vs us : List Value}, RVL x cs vs → RVL x ds us → RVL x (cs ++ ds) (vs ++ us)
  | _, _, _, _, .nil, h => h
  | _, _, _, _, .cons _ _ _ _ h1 h, k => .cons _ _ _ _ h1 (RVL.append h k)

theorem RVL.drop {x : Cx} : ∀ (n : Nat) {cs : List AV} {vs : List Value}, RVL x cs vs → RVL x (cs.drop n) (vs.drop n)
  | 0, _, _, h => h
  | n + 1, _, _, .nil => .nil
  | n + 1, _, _, .cons _ _ _ _ _ h => RVL.drop n h

theorem RVL.take {x : Cx} : ∀ (n : Nat) {cs : List AV} {vs : List Value}, RVL x cs vs → RVL x (cs.take n) (vs.take n)
  | 0, _, _, h => .nil
  | n + 1, _, _, .nil => .nil
  | n + 1, _, _, .cons _ _ _ _ h1 h => .cons _ _ _ _ h1 (RVL.take n h)

theorem RVL.get {x : Cx} : ∀ (i : Nat) {cs : List AV} {vs : List Value} {c : AV}, RVL x cs vs → cs[i]? = some c → ∃ v, vs[i]? = some v ∧ RV x c v
  | _, _, _, _, .nil, h => by simp at h
  | 0, _, _, _, .cons _ _ _ _ h1 _, h => by simp at h; subst h; exact ⟨_, rfl, h1⟩
  | i + 1, _, _, _, .cons _ _ _ _ _ h2, h => by simp at h; obtain ⟨v, hv, hr⟩ := RVL.get i h2 h; exact ⟨v, by simpa using hv, hr⟩

/-- The cells of a pure value whose memory is not turned any more. -/
theorem cells_RVL {x : Cx} : ∀ (t : Ty) (y : den t) (vs : List Value), DeepC x.hp x.fz t y vs → RVL x (cellsOf t y) vs
  | .unit, _, _, h => by cases h; exact .nil
  | .bool, _, _, h => by cases h; exact .cons _ _ _ _ (.bool _) .nil
  | .int _, _, _, h => by cases h; exact .cons _ _ _ _ (.int _ _) .nil
  | .str, _, _, h => by cases h; exact .cons _ _ _ _ (.str _) .nil
  | .sl t, l, _, h => by
    obtain ⟨a, cap, rfl, hc, hr⟩ := h
    exact .cons _ _ _ _ (.sl t l false a cap hc (by simp) hr) .nil
  | .own t, l, _, h => by
    obtain ⟨a, cap, rfl, hc, hr⟩ := h
    exact .cons _ _ _ _ (.sl t l false a cap hc (by simp) hr) .nil
  | .pair a b, y, _, h => by
    obtain ⟨v1, v2, rfl, h1, h2⟩ := h
    exact RVL.append (cells_RVL a _ _ h1) (cells_RVL b _ _ h2)
  | .one t, y, _, h => cells_RVL t y _ h
  | .fn f, _, _, h => by cases h; exact .cons _ _ _ _ (.func f [] [] [] [] .nil .nil) .nil

/-! ### how they are kept -/
def SameSizes (hp hp' : Array Obj) : Prop := ∀ (b : Nat) c e fr, hp[b]? = some (Obj.cells c e fr) → ∃ c' e' fr', hp'[b]? = some (Obj.cells c' e' fr') ∧ c'.size = c.size

structure Ext (x x' : Cx) (S : Nat → Prop) : Prop where
  fz : ∀ b, x.fz b → x'.fz b ∧ x'.hp[b]? = x.hp[b]?
  sizes : SameSizes x.hp x'.hp
  af : ∀ T, S T → ∀ t l', AF x'.H T t l' → ∃ l, AF x.H T t l ∧ l.length = l'.length ∧ x'.m T = x.m T
  box : ∀ T, S T → ∀ cs', hget x'.H T = some (.box cs') → ∃ cs, hget x.H T = some (.box cs) ∧ x'.m T = x.m T

theorem SameSizes.refl (hp : Array Obj) : SameSizes hp hp := fun _ c e fr h => ⟨c, e, fr, h, rfl⟩
theorem SameSizes.trans {a b c : Array Obj} (h : SameSizes a b) (k : SameSizes b c) : SameSizes a c := fun i c e fr hi => by
  obtain ⟨c', e', fr', h1, h2⟩ := h i c e fr hi
  obtain ⟨c'', e'', fr'', h3, h4⟩ := k i c' e' fr' h1
  exact ⟨c'', e'', fr'', h3, h4.trans h2⟩

theorem Ext.refl (x : Cx) (S : Nat → Prop) : Ext x x S :=
  ⟨fun _ h => ⟨h, rfl⟩, .refl _, fun _ _ _ l h => ⟨l, h, rfl, rfl⟩, fun _ _ cs h => ⟨cs, h, rfl⟩⟩

theorem Ext.trans {x y z : Cx} {S : Nat → Prop} (h : Ext x y S) (k : Ext y z S) : Ext x z S := by
  refine ⟨fun b hb => ?_, h.sizes.trans k.sizes, fun T hT t l' ha => ?_, fun T hT cs ha => ?_⟩
  · obtain ⟨h1, h2⟩ := h.fz b hb
    obtain ⟨h3, h4⟩ := k.fz b h1
    exact ⟨h3, h4.trans h2⟩
  · obtain ⟨l1, h1, h2, h3⟩ := k.af T hT t l' ha
    obtain ⟨l2, h4, h5, h6⟩ := h.af T hT t l1 h1
    exact ⟨l2, h4, h5.trans h2, h3.trans h6⟩
  · obtain ⟨c1, h1, h3⟩ := k.box T hT cs ha
    obtain ⟨c2, h4, h6⟩ := h.box T hT c1 h1
    exact ⟨c2, h4, h3.trans h6⟩

theorem Ext.weaken {x y : Cx} {S S' : Nat → Prop} (h : Ext x y S) (k : ∀ T, S' T → S T) : Ext x y S' :=
  ⟨h.fz, h.sizes, fun T hT => h.af T (k T hT), fun T hT => h.box T (k T hT)⟩

theorem Place.mono {x x' : Cx} {S : Nat → Prop} (E : Ext x x' S) {tok : Nat} {t : Ty} {a : Option Addr} {off len cap : Nat} (hm : x'.m tok = x.m tok)
    (h : Place x tok t a off len cap) : Place x' tok t a off len cap := by
  rcases h with h | ⟨b, o, c, e, fr, h1, h2, h3, h4⟩
  · exact .inl h
  · obtain ⟨c', e', fr', h5, h6⟩ := E.sizes b c e fr h3
    exact .inr ⟨b, o, c', e', fr', hm.trans h1, h2, h5, by omega⟩

mutual
theorem RV.mono {x x' : Cx} {S : Nat → Prop} (E : Ext x x' S) : ∀ {v : AV} {w : Value}, RV x v w → (∀ T ∈ toks v, S T) → RV x' v w
  | _, _, .undef v, _ => .undef v
  | _, _, .bool b, _ => .bool b
  | _, _, .int k n, _ => .int k n
  | _, _, .str s, _ => .str s
  | _, _, .sl t l f a cap h1 h2 h3, _ => .sl t l f a cap h1 h2 (RowR.mono E.fz h3)
  | _, _, .nilsl, _ => .nilsl
  | _, _, .who tok f a n cap h, hS => .who tok f a n cap fun t l' ha => by
    obtain ⟨l, hl, he, hm⟩ := E.af tok (hS tok (by simp [toks])) t l' ha
    obtain ⟨h1, h2, h3, h4⟩ := h t l hl
    exact ⟨h1.trans he, h2, h3, h4.mono E hm⟩
  | _, _, .ref tok off len f a cap h, hS => .ref tok off len f a cap fun t l' ha => by
    obtain ⟨l, hl, he, hm⟩ := E.af tok (hS tok (by simp [toks])) t l' ha
    obtain ⟨h1, h2, h3, h4⟩ := h t l hl
    exact ⟨by omega, h2, h3, h4.mono E hm⟩
  | _, _, .ptr tok off ad h, hS => .ptr tok off ad fun cs hc => by
    obtain ⟨cs', h1, h2⟩ := E.box tok (hS tok (by simp [toks])) cs hc
    obtain ⟨b, h3, h4⟩ := h cs' h1
    exact ⟨b, h2.trans h3, h4⟩
  | _, _, .eptr tok i off ad h, hS => .eptr tok i off ad fun t l' ha => by
    obtain ⟨l, hl, he, hm⟩ := E.af tok (hS tok (by simp [toks])) t l' ha
    obtain ⟨h1, b, o, h2, h3⟩ := h t l hl
    exact ⟨by omega, b, o, hm.trans h2, h3⟩
  | _, _, .rptr t y off b o c e fr h1 h2 h3, _ => .rptr t y off b o c e fr (E.fz b h1).1 (by rw [(E.fz b h1).2]; exact h2) (DeepC.mono E.fz t y _ h3)
  | _, _, .func f as bs vs us h1 h2, hS => .func f as bs vs us (RVL.mono E h1 fun T hT => hS T (by simp [toks, hT])) (RVL.mono E h2 fun T hT => hS T (by simp [toks, hT]))
  | _, _, .agg cs vs h, hS => .agg cs vs (RVL.mono E h fun T hT => hS T (by simpa [toks] using hT))
  | _, _, .tup cs vs h, hS => .tup cs vs (RVL.mono E h fun T hT => hS T (by simpa [toks] using hT))
  | _, _, .cst v, _ => .cst v
theorem RVL.mono {x x' : Cx} {S : Nat → Prop} (E : Ext x x' S) : ∀ {v : List AV} {w : List Value}, RVL x v w → (∀ T ∈ toksL v, S T) → RVL x' v w
  | _, _, .nil, _ => .nil
  | _, _, .cons c v cs vs h1 h2, hS => .cons c v cs vs (RV.mono E h1 fun T hT => hS T (by simp [toksL, hT])) (RVL.mono E h2 fun T hT => hS T (by simp [toksL, hT]))
end

/-! ### memory -/
def Unfrozen (c : Array Value) (fr : Nat × Nat) : Prop := ∀ o, o < c.size → ¬ (fr.1 ≤ o ∧ o < fr.2)

def BlkR (x : Cx) (n0 tok : Nat) : Blk → Prop
  | .arr t l => (l = [] ∧ x.m tok = none) ∨ ∃ b o c e fr, x.m tok = some (b, o) ∧ x.hp[b]? = some (Obj.cells c e fr) ∧ n0 ≤ b ∧ ¬ x.fz b ∧ Unfrozen c fr ∧
      o + l.length * csz t ≤ c.size ∧ ∀ i (h : i < l.length), DeepC x.hp x.fz t l[i] (row c (o + i * csz t) (csz t))
  | .fro t l => (l = [] ∧ x.m tok = none) ∨ ∃ b o c e fr, x.m tok = some (b, o) ∧ x.hp[b]? = some (Obj.cells c e fr) ∧ x.fz b ∧
      o + l.length * csz t ≤ c.size ∧ ∀ i (h : i < l.length), DeepC x.hp x.fz t l[i] (row c (o + i * csz t) (csz t))
  | .box cs => ∃ b c e fr, x.m tok = some (b, 0) ∧ x.hp[b]? = some (Obj.cells c e fr) ∧ n0 ≤ b ∧ ¬ x.fz b ∧ Unfrozen c fr ∧ True ∧ RVL x cs c.toList

def Owns (x : Cx) (tok b : Nat) : Prop :=
  (∃ o, x.m tok = some (b, o)) ∧ ((∃ t l, hget x.H tok = some (.arr t l)) ∨ ∃ cs, hget x.H tok = some (.box cs))

structure HR (x : Cx) (n0 : Nat) : Prop where
  blk : ∀ tok b, hget x.H tok = some b → BlkR x n0 tok b
  inj : ∀ t1 t2 b, Owns x t1 b → Owns x t2 b → t1 = t2
  size : ∀ b, x.fz b → b < x.hp.size

end Go.Proofs.YtcdcijhfjiahkaaDoorR.K
