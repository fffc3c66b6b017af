/- The abstract machine: its operations that turn no memory, shown against the model's. -/
import Derived.Test.YtcdcijhfjiahkaaDoorRK2
import Derived.Laws.Slices
import Derived.Laws.Strings
import Derived.Laws.Concat
import Derived.Laws.BytesArg
import Derived.Laws.StructEq
import Derived.Lib.ConvBytes
import Derived.Deep.MidRow
import Derived.ArgAppend
import Derived.Laws.MakeOwn
import Derived.Laws.Rows
set_option linter.unusedVariables false
set_option linter.unusedSimpArgs false
namespace Go.Proofs.YtcdcijhfjiahkaaDoorR.K
open Go
open Go.RowKit (Below)

/-! ### what is known of a type, held against the program -/
def infoOf (P : Program) (t : Nat) : Option (Nat × Nat × List AV) :=
  (P.info? t).bind fun i => i.zero.map fun z => (i.size, i.bytes, z.cells.toList.map avOf)
def aggD : Option TypeDesc → Bool
  | some (.struct _) => true
  | some (.array _ _) => true
  | _ => false
def flOf (P : Program) (t : Nat) : List (Nat × Nat × Bool) :=
  match P.underlying t with
  | some (.struct fs) => fs.toList.map fun f => (f.offset, (match P.underlying f.type with
    | some _ => ((P.info? f.type).map (·.size)).getD 0
    | none => 0), aggD (P.underlying f.type))
  | _ => []
def tyFits (ti : TI) : Prop := match ti.ty with
  | none => True
  | some t => csz t = ti.size ∧ isAgg t = ti.agg ∧ ofCells t ti.zero = some (dfl t, [])

def EqFits (P : Program) (t : Nat) (zero : List AV) : Prop :=
  P.eqGuardType P.depth t = false ∧ ∀ (x : Cx) (cs ds : List AV) (vs us : List Value) (c : Bool) (w : World), RVL x cs vs → RVL x ds us → sameKinds cs zero = true → cellsEq cs ds = some c →
    (Op.equal t (.agg vs.toArray) (.agg us.toArray)).run P w = .ok c w

structure TIok (P : Program) (t : Nat) (ti : TI) : Prop where
  info : infoOf P t = some (ti.size, ti.bytes, ti.zero)
  und : (P.underlying t).map shOf = some ti.sh
  und? : (P.underlying t).isSome = true
  fl : flOf P t = ti.fl
  zl : ti.zero.length = ti.size
  zs : ti.zero.all solid = true
  one : (ti.agg || Nat.beq ti.size 1) = true
  fls : ti.fl.all (fun p => !Nat.beq p.2.1 0) = true
  ty : tyFits ti
  eq : ti.eq = true → EqFits P t ti.zero

def CtxTI (P : Program) (C : Ctx) : Prop := ∀ t ti, C.ti t = some ti → TIok P t ti

section
variable {P : Program}

theorem TIok.desc {t : Nat} {ti : TI} (h : TIok P t ti) : ∃ d, P.underlying t = some d ∧ shOf d = ti.sh := by
  have := h.und
  cases hu : P.underlying t with
  | none => simp [hu] at this
  | some d => exact ⟨d, rfl, by simpa [hu] using this⟩

theorem TIok.slice {t : Nat} {ti : TI} (h : TIok P t ti) {e : Nat} (hs : ti.sh = .sl e) : P.underlying t = some (.slice e) := by
  obtain ⟨d, hd, hsh⟩ := h.desc
  rw [hs] at hsh
  cases d <;> simp [shOf] at hsh
  subst hsh; exact hd
theorem TIok.int {t : Nat} {ti : TI} (h : TIok P t ti) {k : IntKind} (hs : ti.sh = .int k) : P.underlying t = some (.int k) := by
  obtain ⟨d, hd, hsh⟩ := h.desc
  rw [hs] at hsh
  cases d <;> simp [shOf] at hsh
  subst hsh; exact hd
theorem TIok.str {t : Nat} {ti : TI} (h : TIok P t ti) (hs : ti.sh = .str) : P.underlying t = some .string := by
  obtain ⟨d, hd, hsh⟩ := h.desc
  rw [hs] at hsh
  cases d <;> simp [shOf] at hsh
  exact hd
theorem TIok.struct {t : Nat} {ti : TI} (h : TIok P t ti) {fs : List (Nat × Nat)} (hs : ti.sh = .st fs) : ∃ fields, P.underlying t = some (.struct fields) := by
  obtain ⟨d, hd, hsh⟩ := h.desc
  rw [hs] at hsh
  cases d <;> simp [shOf] at hsh
  exact ⟨_, hd⟩
theorem TIok.isAgg {t : Nat} {ti : TI} (h : TIok P t ti) (w : World) : (Go.isAgg t).run P w = .ok ti.agg w := by
  obtain ⟨d, hd, hsh⟩ := h.desc
  unfold Go.isAgg TI.agg
  rw [Sem.run_bind, run_underlying hd w, ← hsh]
  cases d <;> simp [shOf]
theorem TIok.infos {t : Nat} {ti : TI} (h : TIok P t ti) : ∃ i z, P.info? t = some i ∧ i.size = ti.size ∧ i.bytes = ti.bytes ∧ i.zero = some z ∧ z.cells.toList.map avOf = ti.zero := by
  have := h.info
  unfold infoOf at this
  cases hi : P.info? t with
  | none => simp [hi] at this
  | some i =>
    cases hz : i.zero with
    | none => simp [hi, hz] at this
    | some z =>
      simp [hi, hz] at this
      exact ⟨i, z, rfl, this.1, this.2.1, hz, this.2.2⟩
theorem TIok.sizeOf {t : Nat} {ti : TI} (h : TIok P t ti) (w : World) : (Go.sizeOf t).run P w = .ok ti.size w := by
  obtain ⟨i, z, hi, hs, _⟩ := h.infos
  simp [Go.sizeOf, typeInfo, hi, hs]

/-! ### operands -/
theorem avOf_RV (x : Cx) (v : Value) : RV x (avOf v) v := by
  unfold avOf
  split
  · exact .bool _
  · exact .int _ _
  · rename_i s
    have := RV.str (x := x) s.data.toList
    simpa using this
  · exact .nilsl
  · exact .cst _

theorem ev_RV {x : Cx} {e : Env} {a : Act} (h : ∀ t, RV x (get e t) (a.tmps.getD t undef)) (o : Operand) : RV x (ev e o) (a.eval o) := by
  cases o with
  | tmp t => exact h t
  | const v => exact avOf_RV x v
  | global g => exact .undef _
  | func f => exact .func f [] [] [] [] .nil .nil

theorem ev_RVL {x : Cx} {e : Env} {a : Act} (h : ∀ t, RV x (get e t) (a.tmps.getD t undef)) : ∀ l : List Operand, RVL x (l.map (ev e)) (l.map a.eval)
  | [] => .nil
  | o :: l => .cons _ _ _ _ (ev_RV h o) (ev_RVL h l)

/-! ### one operation's outcome -/
structure NxS (x x' : Cx) (n0 : Nat) (S : Nat → Prop) (w w' : World) : Prop where
  ext : Ext x x' S
  hr : HR x' n0
  fz : ∀ b, x'.fz b → x.fz b ∨ n0 ≤ b
  bel : Below n0 w w'
  hp : x'.hp = w'.heap

abbrev Nx (x x' : Cx) (n0 tok : Nat) (w w' : World) : Prop := NxS x x' n0 (fun T => ¬ (tok ≤ T ∧ T < tok + 16)) w w'

theorem NxS.weaken {x x' : Cx} {n0 : Nat} {S S' : Nat → Prop} {w w' : World} (h : NxS x x' n0 S w w') (k : ∀ T, S' T → S T) : NxS x x' n0 S' w w' :=
  ⟨h.ext.weaken k, h.hr, h.fz, h.bel, h.hp⟩

theorem Nx.refl {x : Cx} {n0 : Nat} (hr : HR x n0) (tok : Nat) {w : World} (h : x.hp = w.heap) : Nx x x n0 tok w w :=
  ⟨.refl _ _, hr, fun _ h => .inl h, .refl _ _, h⟩

/-- 's' gives a value for which the machine's outcome stands. -/
def OkV (P : Program) (x : Cx) (n0 tok : Nat) (w : World) (s : Sem Value) : OR → Prop
  | .no => True
  | .ok c b v1 v2 h => c = true → ∃ v w' x', s.run P w = .ok v w' ∧ x'.H = h ∧ Nx x x' n0 tok w w' ∧ RV x' (cond b v1 v2) v

theorem OkV.pure {x : Cx} {n0 tok : Nat} (hr : HR x n0) {w : World} (hp : x.hp = w.heap) {s : Sem Value} {c b : Bool} {v1 v2 : AV}
    (h : c = true → ∃ v, s.run P w = .ok v w ∧ RV x (cond b v1 v2) v) : OkV P x n0 tok w s (.ok c b v1 v2 x.H) := fun hc => by
  obtain ⟨v, h1, h2⟩ := h hc
  exact ⟨v, w, x, h1, rfl, .refl hr tok hp, h2⟩

theorem OkV.v {x : Cx} {n0 tok : Nat} (hr : HR x n0) {w : World} (hp : x.hp = w.heap) {s : Sem Value} {av : AV}
    (h : ∃ v, s.run P w = .ok v w ∧ RV x av v) : OkV P x n0 tok w s (.v av x.H) := OkV.pure hr hp fun _ => h
theorem OkV.cv {x : Cx} {n0 tok : Nat} (hr : HR x n0) {w : World} (hp : x.hp = w.heap) {s : Sem Value} {c : Bool} {av : AV}
    (h : c = true → ∃ v, s.run P w = .ok v w ∧ RV x av v) : OkV P x n0 tok w s (.cv c av x.H) := OkV.pure hr hp h

variable {C : Ctx} (hT : CtxTI P C) {x : Cx} {n0 tok : Nat} (hr : HR x n0) {w : World} (hp : x.hp = w.heap)

theorem beq_u8 (a b : List UInt8) : (a == b) = decide (a = b) := by
  cases h : a == b with
  | true => simp at h; simp [h]
  | false => simp at h; simp [h]

theorem beq_int (a b : Int) : (a == b) = decide (a = b) := by
  cases h : a == b with
  | true => simp at h; simp [h]
  | false => simp at h; simp [h]

include hT hr hp in
theorem binOp_sound (op : BinOp) (t : Nat) (ax ay : AV) (vx vy : Value) (ox oy : Operand) (h1 : RV x ax vx) (h2 : RV x ay vy) :
    OkV P x n0 tok w (do eqGuard op t ox oy vx vy; Go.binOp op t vx vy) (binOp C op t ax ay x.H) := by
  unfold binOp
  split
  · rename_i k a k' b
    cases h1; cases h2
    have g : (eqGuard op t ox oy (.int k a) (.int k' b)).run P w = .ok () w := by
      unfold eqGuard; split <;> simp
    split
    · refine .cv hr hp fun hc => ?_
      have hb : ¬ b < 0 := by simpa using hc
      exact ⟨_, by simp [g, Go.binOp, Op.shift, hb], .int _ _⟩
    · refine .cv hr hp fun hc => ?_
      have hb : ¬ b < 0 := by simpa using hc
      exact ⟨_, by simp [g, Go.binOp, Op.shift, hb], .int _ _⟩
    · rename_i n1 n2
      split
      · rename_i hk
        subst hk
        cases op
        case shl => exact absurd rfl n1
        case shr => exact absurd rfl n2
        case add => exact .v hr hp ⟨.int k (k.wrap (a + b)), by simp [g, Go.binOp, Op.intArith], .int _ _⟩
        case sub => exact .v hr hp ⟨.int k (k.wrap (a - b)), by simp [g, Go.binOp, Op.intArith], .int _ _⟩
        case mul => exact .v hr hp ⟨.int k (k.wrap (a * b)), by simp [g, Go.binOp, Op.intArith], .int _ _⟩
        case quo =>
          refine .cv hr hp fun hc => ?_
          have hb : ¬ b = 0 := by simpa using hc
          exact ⟨.int k (k.wrap (a.tdiv b)), by simp [g, Go.binOp, Op.intDiv, hb], .int _ _⟩
        case rem =>
          refine .cv hr hp fun hc => ?_
          have hb : ¬ b = 0 := by simpa using hc
          exact ⟨.int k (a.tmod b), by simp [g, Go.binOp, Op.intDiv, hb], .int _ _⟩
        case and => exact .v hr hp ⟨.int k (bitop .and k a b), by simp [g, Go.binOp, Op.intBits, bitop], .int _ _⟩
        case or => exact .v hr hp ⟨.int k (bitop .or k a b), by simp [g, Go.binOp, Op.intBits, bitop], .int _ _⟩
        case xor => exact .v hr hp ⟨.int k (bitop .xor k a b), by simp [g, Go.binOp, Op.intBits, bitop], .int _ _⟩
        case andNot => exact .v hr hp ⟨.int k (bitop .andNot k a b), by simp [g, Go.binOp, Op.intBits, bitop], .int _ _⟩
        case eql => exact .v hr hp ⟨.bool (decide (a = b)), by simp [g, Go.binOp, Op.intCmp, beq_int], .bool _⟩
        case neq => exact .v hr hp ⟨.bool (!decide (a = b)), by simp [g, Go.binOp, Op.intCmp, bne, beq_int], .bool _⟩
        case lss => exact .v hr hp ⟨.bool (decide (a < b)), by simp [g, Go.binOp, Op.intCmp], .bool _⟩
        case leq => exact .v hr hp ⟨.bool (decide (a ≤ b)), by simp [g, Go.binOp, Op.intCmp], .bool _⟩
        case gtr => exact .v hr hp ⟨.bool (decide (a > b)), by simp [g, Go.binOp, Op.intCmp], .bool _⟩
        case geq => exact .v hr hp ⟨.bool (decide (a ≥ b)), by simp [g, Go.binOp, Op.intCmp], .bool _⟩
      · trivial
  · rename_i a b
    cases h1; cases h2
    have g : (eqGuard op t ox oy (.string ⟨a.toArray⟩) (.string ⟨b.toArray⟩)).run P w = .ok () w := by
      unfold eqGuard; split <;> simp
    cases op
    case add =>
      refine .cv hr hp fun hc => ?_
      have hb : a.length + b.length ≤ 9223372036854775807 := by
        have := Nat.le_of_ble_eq_true hc; omega
      refine ⟨.string ⟨(a ++ b).toArray⟩, ?_, .str _⟩
      have := run_string_add_sum (P := P) w ⟨a.toArray⟩ ⟨b.toArray⟩ (by simpa [ByteArray.size] using hb)
      simp only [Sem.run_bind, g, Result.andThen_ok, binOp_string_add, this, ByteArray.mk_append_mk]
    case eql => exact .v hr hp ⟨.bool (decide (a = b)), by simp [g, Go.binOp, Op.stringOp, ByteArray.toList_mk, beq_u8], .bool _⟩
    case neq => exact .v hr hp ⟨.bool (!decide (a = b)), by simp [g, Go.binOp, Op.stringOp, ByteArray.toList_mk, beq_u8], .bool _⟩
    case lss => exact .v hr hp ⟨.bool (Op.bytesLess a b), by simp [g, Go.binOp, Op.stringOp, ByteArray.toList_mk], .bool _⟩
    case leq => exact .v hr hp ⟨.bool (Op.bytesLess a b || decide (a = b)), by simp [g, Go.binOp, Op.stringOp, ByteArray.toList_mk, beq_u8], .bool _⟩
    case gtr => exact .v hr hp ⟨.bool (!(Op.bytesLess a b || decide (a = b))), by simp [g, Go.binOp, Op.stringOp, ByteArray.toList_mk, beq_u8], .bool _⟩
    case geq => exact .v hr hp ⟨.bool (!Op.bytesLess a b), by simp [g, Go.binOp, Op.stringOp, ByteArray.toList_mk], .bool _⟩
    all_goals trivial
  · rename_i a b
    cases h1; cases h2
    have g : (eqGuard op t ox oy (.bool a) (.bool b)).run P w = .ok () w := by
      unfold eqGuard; split <;> simp
    split
    · rename_i ti hti
      have ok := hT _ _ hti
      split
      · rename_i hs
        obtain ⟨d, hd, hsh⟩ := ok.desc
        have hd : P.underlying t = some .bool := by
          rw [hs] at hsh; cases d <;> simp [shOf] at hsh; exact hd
        have e : (Op.equal t (.bool a) (.bool b)).run P w = .ok (a == b) w := run_equalIn_bool' (P := P) w _ t a b hd
        cases op
        case eql => exact .v hr hp ⟨.bool (a == b), by simp [g, Go.binOp, e], .bool _⟩
        case neq => exact .v hr hp ⟨.bool (!(a == b)), by simp [g, Go.binOp, e], .bool _⟩
        all_goals trivial
      · trivial
    · trivial
  · rename_i a b
    split
    · rename_i ti hti
      have ok := hT _ _ hti
      cases h1 with
      | agg _ vs k1 =>
      cases h2 with
      | agg _ us k2 =>
      split
      · rename_i c he hc
        simp only [Bool.and_eq_true] at he
        obtain ⟨g1, g2⟩ := ok.eq he.1
        have e := g2 x a b vs us c w k1 k2 he.2 hc
        cases op
        case eql => exact .v hr hp ⟨.bool c, by simp [eqGuard, g1, Go.binOp, e], .bool _⟩
        case neq => exact .v hr hp ⟨.bool (!c), by simp [eqGuard, g1, Go.binOp, e], .bool _⟩
        all_goals trivial
      · trivial
    · trivial
  · trivial

include hr hp in
theorem unOp_sound (op : UnOp) (ax : AV) (vx : Value) (h1 : RV x ax vx) : OkV P x n0 tok w (Op.unary op vx) (unOp op ax x.H) := by
  unfold unOp
  split
  · cases h1; exact .v hr hp ⟨_, by simp [Op.unary], .bool _⟩
  · rename_i k n; cases h1; exact .v hr hp ⟨.int k (k.wrap (0 - n)), by simp [Op.unary, Op.intArith], .int _ _⟩
  · rename_i k n; cases h1; exact .v hr hp ⟨.int k (bitop .xor k (if k.signed then -1 else k.max) n), by simp [Op.unary, Op.intBits, bitop], .int _ _⟩
  · trivial

/-! ### reading memory -/
/-- An operation that turns nothing. -/
def OkP (P : Program) (x : Cx) (w : World) (s : Sem Value) : OR → Prop
  | .no => True
  | .ok c b v1 v2 h => h = x.H ∧ (c = true → ∃ v, s.run P w = .ok v w ∧ RV x (cond b v1 v2) v)

include hr hp in
theorem OkP.toV {s : Sem Value} {r : OR} (h : OkP P x w s r) : OkV P x n0 tok w s r := by
  cases r with
  | no => trivial
  | ok c b v1 v2 h' =>
    obtain ⟨rfl, h⟩ := h
    exact OkV.pure hr hp h

theorem row_sub {c : Array Value} {o m off n : Nat} (h : off + n ≤ m) : row c (o + off) n = ((row c o m).drop off).take n := by
  unfold row
  rw [List.drop_take, List.drop_drop, List.take_take]
  congr 1
  omega

theorem row_all (c : Array Value) : row c 0 c.size = c.toList := by
  have := List.take_length (l := c.toList)
  simpa [row] using this

theorem range_row {w : World} {b o n : Nat} {c : Array Value} {e : TypeId} {fr : Nat × Nat} (hb : w.heap[b]? = some (Obj.cells c e fr)) : w.rangeAt b o (row c o n) := by
  intro j v hv
  simp only [World.cell?, hb]
  unfold row at hv
  rw [List.getElem?_take] at hv
  split at hv
  · simpa [List.getElem?_drop] using hv
  · simp at hv

theorem loadVar_sound {t : Nat} {ti : TI} (ok : TIok P t ti) {w : World} {b o off : Nat} {c : Array Value} {e : TypeId} {fr : Nat × Nat} (hb : w.heap[b]? = some (Obj.cells c e fr))
    {x : Cx} {cs : List AV} {vs : List Value} (hv : RVL x cs vs) (hrow : row c o vs.length = vs) (hoff : off + ti.size ≤ vs.length) :
    ∃ v, (loadVar t ⟨b, o + off, none⟩).run P w = .ok v w ∧ RV x (part cs off ti.size ti.agg) v := by
  have hsub : row c (o + off) ti.size = (vs.drop off).take ti.size := by rw [row_sub hoff, hrow]
  have hlen : ((vs.drop off).take ti.size).length = ti.size := by simp; omega
  obtain ⟨i, z, hi, hs, _⟩ := ok.infos
  obtain ⟨d, hd, hsh⟩ := ok.desc
  have hrng : w.rangeAt b (o + off) ((vs.drop off).take ti.size) := by rw [← hsub]; exact range_row hb
  cases hag : ti.agg with
  | true =>
    have hrowd : d.isRow = true := by
      unfold TI.agg at hag
      rw [← hsh] at hag
      cases d <;> simp [shOf] at hag <;> rfl
    refine ⟨_, run_loadVar_mid w b (o + off) t _ d hrng hd hrowd (by simp [hi, hs, hlen]), ?_⟩
    exact .agg _ _ (hv.drop off |>.take ti.size)
  | false =>
    have h1 : ti.size = 1 := by have := ok.one; rw [hag] at this; simpa using Nat.eq_of_beq_eq_true (by simpa using this)
    have hag' := ok.isAgg w
    rw [hag] at hag'
    have hd2 := hv.drop off
    cases hcs : cs.drop off with
    | nil =>
      have := hv.length
      have : (cs.drop off).length = 0 := by rw [hcs]; rfl
      simp at this; omega
    | cons c1 cs1 =>
      rw [hcs] at hd2
      cases hvs : vs.drop off with
      | nil => rw [hvs] at hd2; cases hd2
      | cons v1 vs1 =>
        rw [hvs] at hd2
        cases hd2 with
        | cons _ _ _ _ k1 k2 =>
        have hc : w.cell? ⟨b, o + off, none⟩ = some v1 := by
          have := hrng 0 v1 (by rw [hvs, h1]; rfl)
          simpa using this
        refine ⟨v1, ?_, ?_⟩
        · simp [loadVar, hag', hc]
        · simp only [part, hcs]; exact k1

include hr hp in
theorem loadOp_pure {t : Nat} {ti : TI} (ok : TIok P t ti) {p : AV} {v : Value} (h : RV x p v) : OkP P x w (Instr.loadAt t v) (loadOp ti p x.H) := by
  unfold loadOp
  split
  · rename_i tk off
    cases h with
    | ptr _ _ ad h =>
    split
    · rename_i cs hg
      split
      · rename_i hle
        have hle := Nat.le_of_ble_eq_true hle
        obtain ⟨b, hm, rfl⟩ := h cs hg
        obtain ⟨b', c, e, fr, hm', hb, _, _, _, _, hrv⟩ := hr.blk _ _ hg
        rw [hm] at hm'; cases hm'
        rw [hp] at hb
        obtain ⟨v, h1, h2⟩ := loadVar_sound (o := 0) (off := off) ok hb hrv (by rw [Array.length_toList]; exact row_all c) (by have := hrv.length; omega)
        exact ⟨rfl, fun _ => ⟨v, by simpa [Instr.loadAt, Instr.sureAddr] using h1, h2⟩⟩
      · trivial
    · trivial
  · rename_i tk i off
    cases h with
    | eptr _ _ _ ad h =>
    have go : ∀ (t' : Ty) (l : List (den t')), AF x.H tk t' l → off + ti.size ≤ csz t' → OkP P x w (Instr.loadAt t (.pointer (some ad))) (.v (part (cellsOf t' (l.getD i (dfl t'))) off ti.size ti.agg) x.H) := by
      intro t' l ha hle
      obtain ⟨hi, b, o, hm, rfl⟩ := h t' l ha
      rcases af_deep hr ha with ⟨hl, _⟩ | ⟨b', o', c, e, fr, hm', hb, hsz, hd⟩
      · subst hl; simp at hi
      rw [hm] at hm'; cases hm'
      rw [hp] at hb
      have hdi := hd i hi
      have hrv := cells_RVL t' _ _ hdi
      have hlen := DeepC.length _ _ _ hdi
      obtain ⟨v, h1, h2⟩ := loadVar_sound (o := o + i * csz t') (off := off) ok hb hrv (by rw [hlen]) (by omega)
      have e : l.getD i (dfl t') = l[i] := by simp [List.getD, hi]
      rw [e]
      exact ⟨rfl, fun _ => ⟨v, by simpa [Instr.loadAt, Instr.sureAddr] using h1, h2⟩⟩
    split
    · rename_i t' l hg
      split
      · rename_i hle; exact go t' l (.inl hg) (Nat.le_of_ble_eq_true hle)
      · trivial
    · rename_i t' l hg
      split
      · rename_i hle; exact go t' l (.inr hg) (Nat.le_of_ble_eq_true hle)
      · trivial
    · trivial
  · rename_i t' y off
    cases h with
    | rptr _ _ _ b o c e fr h1 h2 h3 =>
    split
    · rename_i hle
      have hle := Nat.le_of_ble_eq_true hle
      rw [hp] at h2
      have hlen := DeepC.length _ _ _ h3
      obtain ⟨v, h1, h2⟩ := loadVar_sound (o := o) (off := off) ok h2 (cells_RVL t' _ _ h3) (by rw [hlen]) (by omega)
      exact ⟨rfl, fun _ => ⟨v, by simpa [Instr.loadAt, Instr.sureAddr] using h1, h2⟩⟩
    · trivial
  · trivial

include hr hp in
theorem loadOp_sound {t : Nat} {ti : TI} (ok : TIok P t ti) {p : AV} {v : Value} (h : RV x p v) : OkV P x n0 tok w (Instr.loadAt t v) (loadOp ti p x.H) := (loadOp_pure hr hp ok h).toV hr hp

theorem TIok.field {t : Nat} {ti : TI} (ok : TIok P t ti) {f o n : Nat} {ag : Bool} (h : fieldOf ti f = some (o, n, ag)) :
    ∃ fields fd, P.underlying t = some (.struct fields) ∧ fields[f]? = some fd ∧ fd.offset = o ∧ ((P.info? fd.type).map (·.size)).getD 0 = n ∧ aggD (P.underlying fd.type) = ag ∧ n ≠ 0 ∧ (P.underlying fd.type).isSome = true := by
  unfold fieldOf at h
  have hfl := ok.fl
  have hfs := ok.fls
  have hn : n ≠ 0 := by
    rintro rfl
    have := List.all_eq_true.1 hfs (o, 0, ag) (List.mem_of_getElem? h)
    simp at this
  rw [← hfl] at h
  unfold flOf at h
  split at h
  · rename_i fs hfs'
    rw [List.getElem?_map] at h
    cases hg : fs.toList[f]? with
    | none => simp [hg] at h
    | some fd =>
      simp only [hg, Option.map_some, Option.some.injEq, Prod.mk.injEq] at h
      obtain ⟨g1, g2, g3⟩ := h
      cases hu : P.underlying fd.type with
      | none => simp only [hu] at g2; exact absurd g2.symm hn
      | some d => simp only [hu] at g2 g3; exact ⟨fs, fd, hfs', by simpa using hg, g1, g2, by rw [← g3, hu], hn, by simp [hu]⟩
  · simp at h

theorem sizeOf_some {t n : Nat} (h : ((P.info? t).map (·.size)).getD 0 = n) (hn : n ≠ 0) (w : World) : (Go.sizeOf t).run P w = .ok n w := by
  cases hi : P.info? t with
  | none => simp [hi] at h; omega
  | some i => simp [hi] at h; simp [Go.sizeOf, typeInfo, hi, h]

theorem addr_add (b o n : Nat) : (⟨b, o, none⟩ : Addr).add n = ⟨b, o + n, none⟩ := Addr.add_mid b o n

include hr hp in
theorem fieldAddrOp_sound {t : Nat} {ti : TI} (ok : TIok P t ti) {p : AV} {v : Value} (f : Nat) (h : RV x p v) : OkV P x n0 tok w (Instr.fieldAt t v f) (fieldAddrOp ti p f x.H) := by
  unfold fieldAddrOp
  split
  · trivial
  · rename_i o n ag hf
    obtain ⟨fields, fd, h1, h2, h3, h4, h5, h6, _⟩ := ok.field hf
    have hz := sizeOf_some h4 h6 w
    have run : ∀ ad : Addr, (Instr.fieldAt t (.pointer (some ad)) f).run P w = .ok (.pointer (some (ad.add o))) w := by
      intro ad
      simp [Instr.fieldAt, run_underlying h1, h2, Instr.sureAddr, fieldPlace, hz, h3, h6]
    split
    · rename_i tk off
      cases h with
      | ptr _ _ ad h =>
      refine .v hr hp ⟨_, run ad, .ptr _ _ _ fun cs hg => ?_⟩
      obtain ⟨b, hm, rfl⟩ := h cs hg
      exact ⟨b, hm, addr_add b off o⟩
    · rename_i tk i off
      cases h with
      | eptr _ _ _ ad h =>
      refine .v hr hp ⟨_, run ad, .eptr _ _ _ _ fun t' l ha => ?_⟩
      obtain ⟨hi, b, o', hm, rfl⟩ := h t' l ha
      exact ⟨hi, b, o', hm, by rw [addr_add, Nat.add_assoc]⟩
    · rename_i t' y off
      cases h with
      | rptr _ _ _ b o' c e fr h1 h2 h3 =>
      refine .v hr hp ⟨_, run _, ?_⟩
      rw [addr_add, Nat.add_assoc]
      exact .rptr t' y (off + o) b o' c e fr h1 h2 h3
    · trivial

theorem isAgg_run {t : Nat} (hs : (P.underlying t).isSome = true) (w : World) : (Go.isAgg t).run P w = .ok (aggD (P.underlying t)) w := by
  cases hu : P.underlying t with
  | none => simp [hu] at hs
  | some d =>
    unfold Go.isAgg
    rw [Sem.run_bind, run_underlying hu w]
    cases d <;> simp [aggD]

include hr hp in
theorem fieldOp_sound {t : Nat} {ti : TI} (ok : TIok P t ti) {p : AV} {v : Value} (f : Nat) (h : RV x p v) : OkV P x n0 tok w (Instr.field t v f) (fieldOp ti p f x.H) := by
  unfold fieldOp
  split
  · rename_i o n ag cs hf
    obtain ⟨fields, fd, h1, h2, h3, h4, h5, h6, h7⟩ := ok.field hf
    cases h with
    | agg _ vs h =>
    split
    · rename_i hle
      have hle := Nat.le_of_ble_eq_true hle
      have hz := sizeOf_some h4 h6 w
      have hag := isAgg_run h7 w
      rw [h5] at hag
      have hlen := h.length
      cases ag with
      | true =>
        have e : (vs.toArray.extract o (o + n)) = ((vs.drop o).take n).toArray := by
          apply Array.ext'
          simp [Array.toList_extract, List.extract_eq_take_drop]
        refine .v hr hp ⟨.agg ((vs.drop o).take n).toArray, ?_, ?_⟩
        · simp [Instr.field, run_underlying h1, h2, asAgg, Go.part, hag, h3, hz, e]
        · exact .agg _ _ (h.drop o |>.take n)
      | false =>
        have hd := h.drop o
        cases hcs : cs.drop o with
        | nil =>
          have : (cs.drop o).length = 0 := by rw [hcs]; rfl
          simp at this; omega
        | cons c1 cs1 =>
          rw [hcs] at hd
          cases hvs : vs.drop o with
          | nil => rw [hvs] at hd; cases hd
          | cons v1 vs1 =>
            rw [hvs] at hd
            cases hd with
            | cons _ _ _ _ k1 k2 =>
            have hget : vs[o]? = some v1 := by
              have : (vs.drop o)[0]? = some v1 := by rw [hvs]; rfl
              simpa using this
            refine .v hr hp ⟨v1, ?_, ?_⟩
            · simp [Instr.field, run_underlying h1, h2, asAgg, Go.part, hag, h3, hget]
            · simp only [part, hcs]; exact k1
    · trivial
  · trivial

include hr hp in
theorem extract_sound {p : AV} {v : Value} (i : Nat) (h : RV x p v) : OkV P x n0 tok w (Instr.extract v i) (extractOp p i x.H) := by
  unfold extractOp
  cases h with
  | tup cs vs h =>
    dsimp only
    split
    · rename_i c hc
      obtain ⟨v, hv, hrv⟩ := RVL.get i h hc
      exact .v hr hp ⟨v, by simp [Instr.extract, hv], hrv⟩
    · trivial
  | _ => trivial

theorem natOf_RV {av : AV} {v : Value} {n : Int} (h : RV x av v) (hn : natOf av = some n) : ∃ k, v = .int k n := by
  unfold natOf at hn
  split at hn
  · cases hn; cases h; exact ⟨_, rfl⟩
  · simp at hn

theorem isStr_und {t : Nat} (hT : CtxTI P C) (h : isStr C t = true) : P.underlying t = some .string := by
  unfold isStr at h
  split at h
  · rename_i ti hti
    split at h
    · rename_i hs; exact (hT _ _ hti).str hs
    · simp at h
  · simp at h

theorem eltSz_und {t n : Nat} (hT : CtxTI P C) (h : eltSz C t = some n) : ∃ e, P.underlying t = some (.slice e) ∧ ∀ w, (Go.sizeOf e).run P w = .ok n w := by
  unfold eltSz at h
  split at h
  · rename_i ti hti
    split at h
    · rename_i e hs
      split at h
      · rename_i te hte
        simp only [Option.some.injEq] at h
        exact ⟨e, (hT _ _ hti).slice hs, fun w => by rw [(hT _ _ hte).sizeOf w, h]⟩
      · simp at h
    · simp at h
  · simp at h

theorem avSz_AF {tk : Nat} {t : Ty} {l : List (den t)} (h : AF x.H tk t l) (f : Bool) : avSz (.who tk f) x.H = some (csz t) := by
  rcases h with h | h <;> simp [avSz, h]
theorem avSz_AF' {tk off len : Nat} {t : Ty} {l : List (den t)} (h : AF x.H tk t l) (f : Bool) : avSz (.ref tk off len f) x.H = some (csz t) := by
  rcases h with h | h <;> simp [avSz, h]

/-- A slice's type, where the machine's value fits it. -/
theorem fitsTy_slice {t : Nat} {av : AV} (hT : CtxTI P C) (h : fitsTy C t av x.H = true) (hs : ∀ s, av ≠ .str s) :
    ∃ e n, P.underlying t = some (.slice e) ∧ (∀ w, (Go.sizeOf e).run P w = .ok n w) ∧ (av = .nilsl ∨ avSz av x.H = some n) := by
  unfold fitsTy at h
  split at h
  · rename_i s; exact absurd rfl (hs s)
  · obtain ⟨n, hn⟩ := Option.isSome_iff_exists.1 h
    obtain ⟨e, h1, h2⟩ := eltSz_und hT hn
    exact ⟨e, n, h1, h2, .inl rfl⟩
  · split at h
    · rename_i n m h1 h2
      have := Nat.eq_of_beq_eq_true h
      subst this
      obtain ⟨e, h3, h4⟩ := eltSz_und hT h1
      exact ⟨e, n, h3, h4, .inr h2⟩
    · simp at h

include hT hr hp in
theorem indexAddr_sound {t : Nat} {ax ai : AV} {vx vi : Value} (hf : fitsTy C t ax x.H = true) (h1 : RV x ax vx) (h2 : RV x ai vi) :
    OkV P x n0 tok w (Instr.indexAt t vx vi) (indexAddrOp ax ai x.H) := by
  unfold indexAddrOp
  split
  · trivial
  · rename_i i hi
    obtain ⟨k, rfl⟩ := natOf_RV h2 hi
    have run : ∀ (e n : Nat) (a : Addr) (len cap : Nat), P.underlying t = some (.slice e) → (∀ w, (Go.sizeOf e).run P w = .ok n w) → 0 ≤ i → i < (len : Int) →
        (Instr.indexAt t (.slice (some a) len cap) (.int k i)).run P w = .ok (.pointer (some (a.add (i.toNat * n)))) w := by
      intro e n a len cap hu hz h0 hlt
      simp [Instr.indexAt, asIntOf, run_underlying hu, h0, hlt, hz]
    split
    · rename_i t' l f
      obtain ⟨e, n, hu, hz, hsz⟩ := fitsTy_slice hT hf (by simp)
      simp [avSz] at hsz
      subst hsz
      cases h1 with
      | sl _ _ _ a cap q1 q2 q3 =>
      refine .cv hr hp fun hc => ?_
      simp only [Bool.and_eq_true, decide_eq_true_eq] at hc
      obtain ⟨h0, hlt⟩ := hc
      have hlt' : i.toNat < l.length := by omega
      obtain ⟨b, o, c, e', fr, rfl, hok, hb, hd⟩ := q3 (by rintro rfl; simp at hlt')
      refine ⟨_, run e _ _ _ _ hu hz h0 hlt, ?_⟩
      rw [addr_add]
      have e1 : l.getD i.toNat (dfl t') = l[i.toNat] := by simp [List.getD, hlt']
      rw [e1]
      exact .rptr t' _ 0 b (o + i.toNat * csz t') c e' fr hok hb (hd _ hlt')
    · rename_i tk f
      split
      · rename_i n hn
        obtain ⟨e, m, hu, hz, hsz⟩ := fitsTy_slice hT hf (by simp)
        simp at hsz
        cases h1 with
        | who _ _ a len cap q =>
        refine .cv hr hp fun hc => ?_
        simp only [Bool.and_eq_true, decide_eq_true_eq] at hc
        obtain ⟨h0, hlt⟩ := hc
        have : ∃ t' l, AF x.H tk t' l ∧ n = (l.length : Int) := by
          simp only [lenOf] at hn
          split at hn
          · rename_i t' l hg; exact ⟨t', l, .inl hg, by simpa using hn.symm⟩
          · rename_i t' l hg; exact ⟨t', l, .inr hg, by simpa using hn.symm⟩
          · simp at hn
        obtain ⟨t', l, ha, rfl⟩ := this
        rw [avSz_AF ha] at hsz
        simp only [Option.some.injEq] at hsz; subst hsz
        obtain ⟨g1, g2, g3, g4⟩ := q t' l ha
        subst g1
        rcases g4 with ⟨g5, _⟩ | ⟨b, o, c, e', fr, g5, rfl, g7, g8⟩
        · omega
        refine ⟨_, run e _ _ _ _ hu hz h0 hlt, .eptr _ _ _ _ fun t'' l' ha' => ?_⟩
        obtain ⟨rfl, hl⟩ := ha.unique ha'
        cases hl
        exact ⟨by omega, b, o, g5, by rw [addr_add]; simp⟩
      · trivial
    · rename_i tk off len f
      obtain ⟨e, m, hu, hz, hsz⟩ := fitsTy_slice hT hf (by simp)
      simp at hsz
      cases h1 with
      | ref _ _ _ _ a cap q =>
      refine .cv hr hp fun hc => ?_
      simp only [Bool.and_eq_true, decide_eq_true_eq] at hc
      obtain ⟨h0, hlt⟩ := hc
      have : ∃ t' l, AF x.H tk t' l := by
        simp only [avSz] at hsz
        split at hsz
        · rename_i t' l hg; exact ⟨t', l, .inl hg⟩
        · rename_i t' l hg; exact ⟨t', l, .inr hg⟩
        · simp at hsz
      obtain ⟨t', l, ha⟩ := this
      rw [avSz_AF' ha] at hsz
      simp only [Option.some.injEq] at hsz; subst hsz
      obtain ⟨g1, g2, g3, g4⟩ := q t' l ha
      rcases g4 with ⟨g5, _⟩ | ⟨b, o, c, e', fr, g5, rfl, g7, g8⟩
      · omega
      refine ⟨_, run e _ _ _ _ hu hz h0 hlt, .eptr _ _ _ _ fun t'' l' ha' => ?_⟩
      obtain ⟨rfl, hl⟩ := ha.unique ha'
      cases hl
      refine ⟨by omega, b, o, g5, ?_⟩
      rw [addr_add, Nat.add_mul]; simp [Nat.add_assoc]
    · trivial

include hT hr hp in
theorem indexOp_sound {t : Nat} {ax ai : AV} {vx vi : Value} (hf : isStr C t = true) (h1 : RV x ax vx) (h2 : RV x ai vi) :
    OkV P x n0 tok w (Instr.index t vx vi) (indexOp ax ai x.H) := by
  unfold indexOp
  split
  · trivial
  · rename_i i hi
    obtain ⟨k, rfl⟩ := natOf_RV h2 hi
    split
    · rename_i s
      cases h1
      refine .cv hr hp fun hc => ?_
      simp only [Bool.and_eq_true, decide_eq_true_eq] at hc
      obtain ⟨h0, hlt⟩ := hc
      have hlt' : i.toNat < s.length := by omega
      have := run_index_string (P := P) w t ⟨s.toArray⟩ k i (isStr_und hT hf)
      rw [dif_pos ⟨h0, by simpa [ByteArray.size] using hlt⟩] at this
      refine ⟨_, this, ?_⟩
      have e : (s.getD i.toNat 0) = (⟨s.toArray⟩ : ByteArray)[i.toNat]'(by simpa [ByteArray.size] using hlt') := by
        simp [List.getD, hlt']; rfl
      rw [e]
      exact .int _ _
    · trivial

/-! ### slicing -/
/-- A bound that may be left out. -/
def OptIs (v : Option Value) (n : Option Int) : Prop := (v = none ∧ n = none) ∨ ∃ k i, v = some (.int k i) ∧ n = some i

theorem optI_is {o : Option Operand} {e : Env} {a : Act} {n : Option Int} (h : ∀ t, RV x (get e t) (a.tmps.getD t undef)) (ho : optI (o.map (ev e)) = some n) :
    OptIs (o.map a.eval) n := by
  cases o with
  | none => simp [optI] at ho; subst ho; exact .inl ⟨rfl, rfl⟩
  | some o =>
    simp only [Option.map_some, optI] at ho
    split at ho
    · rename_i m hm
      simp only [Option.some.injEq] at ho; subst ho
      obtain ⟨k, hk⟩ := natOf_RV (ev_RV h o) hm
      exact .inr ⟨k, m, by simp [hk], rfl⟩
    · simp at ho

def slMax (m : Option Int) (cap : Nat) : Nat := slHi m cap

theorem slChk_le {l u m : Option Int} {len : Nat} (h : slChk l u m len = true) : slLo l ≤ slHi u len ∧ slHi u len ≤ len ∧ (m ≠ none → slHi u len ≤ slMax m len ∧ slMax m len ≤ len) := by
  cases m with
  | none =>
    cases l <;> cases u <;> simp [slChk, slLo, slHi, slMax] at * <;> omega
  | some m =>
    cases l <;> cases u <;> simp [slChk, slLo, slHi, slMax] at * <;> omega

theorem sliceBounds_run (b : Bool) {len cap : Nat} (hc : len ≤ cap) {lo hi mx : Option Value} {l u m : Option Int} (h1 : OptIs lo l) (h2 : OptIs hi u) (h3 : OptIs mx m)
    (hk : slChk l u m len = true) : (Instr.sliceBounds b len cap lo hi mx).run P w = .ok (slLo l, slHi u len, slMax m cap) w := by
  rcases h3 with ⟨rfl, rfl⟩ | ⟨km, im, rfl, rfl⟩
  · rcases h1 with ⟨rfl, rfl⟩ | ⟨kl, il, rfl, rfl⟩ <;> rcases h2 with ⟨rfl, rfl⟩ | ⟨ku, iu, rfl, rfl⟩ <;> simp [slChk] at hk
    · simp [Instr.sliceBounds, slLo, slHi, slMax]
    · have e : (iu.toNat : Int) = iu := by omega
      simp [Instr.sliceBounds, slLo, slHi, slMax, run_sliceBound, hk, show iu ≤ (cap : Int) by omega]
    · simp [Instr.sliceBounds, slLo, slHi, slMax, run_sliceBound, hk]
    · have e : (iu.toNat : Int) = iu := by omega
      simp [Instr.sliceBounds, slLo, slHi, slMax, run_sliceBound, hk, show iu ≤ (cap : Int) by omega, show 0 ≤ iu by omega, e]
  · rcases h1 with ⟨rfl, rfl⟩ | ⟨kl, il, rfl, rfl⟩ <;> rcases h2 with ⟨rfl, rfl⟩ | ⟨ku, iu, rfl, rfl⟩ <;> simp [slChk] at hk
    · have e : (im.toNat : Int) = im := by omega
      simp [Instr.sliceBounds, slLo, slHi, slMax, run_sliceBound, hk, show im ≤ (cap : Int) by omega, show 0 ≤ im by omega, e]
    · have e : (im.toNat : Int) = im := by omega
      have e' : (iu.toNat : Int) = iu := by omega
      simp [Instr.sliceBounds, slLo, slHi, slMax, run_sliceBound, hk, show im ≤ (cap : Int) by omega, show 0 ≤ im by omega, show 0 ≤ iu by omega, e, e']

theorem cutL_eq {α : Type} {l u m : Option Int} {s : List α} (hk : slChk l u m s.length = true) : cutL l u s = (s.drop (slLo l)).take (slHi u s.length - slLo l) := by
  cases l <;> cases u <;> simp [cutL, slLo, slHi]
  · rw [List.take_of_length_le (by simp)]
  · rename_i l u
    rw [List.drop_take]

theorem cutL_length {α : Type} {l u m : Option Int} {s : List α} (hk : slChk l u m s.length = true) : (cutL l u s).length = slHi u s.length - slLo l := by
  rw [cutL_eq hk]
  have := slChk_le hk
  simp; omega

theorem slEq_full {f : Bool} {l u m : Option Int} {len cap : Nat} (hk : slChk l u m len = true) (hf : f = true → cap = len) (hc : len ≤ cap) :
    (∀ b, slEq u m = b → cond b (slFull f u m) false = true → slMax m cap - slLo l = slHi u len - slLo l) := by
  intro b hb h
  have hle := slChk_le hk
  cases m with
  | none =>
    cases u with
    | none => cases b <;> simp [slFull] at h; have := hf h; simp [slMax, slHi]; omega
    | some u => cases b <;> simp [slFull] at h
  | some m =>
    cases u with
    | none => simp [slChk] at hk
    | some u =>
      cases b with
      | false => simp at h
      | true =>
        simp [slEq] at hb
        subst hb
        simp [slMax, slHi]

include hT hr hp in
theorem sliceOp_sound {t : Nat} {ax : AV} {vx : Value} {lo hi mx : Option Value} {l u m : Option Int} (hf : fitsTy C t ax x.H = true) (h : RV x ax vx)
    (h1 : OptIs lo l) (h2 : OptIs hi u) (h3 : OptIs mx m) : OkV P x n0 tok w (Instr.sliceAt t vx lo hi mx) (sliceOp ax l u m x.H) := by
  have sl : ∀ (e n : Nat) (a : Option Addr) (len cap : Nat), P.underlying t = some (.slice e) → (∀ w, (Go.sizeOf e).run P w = .ok n w) → len ≤ cap → slChk l u m len = true →
      (Instr.sliceAt t (.slice a len cap) lo hi mx).run P w = .ok (.slice (if slMax m cap = slLo l then a else a.map (·.add (slLo l * n))) (slHi u len - slLo l) (slMax m cap - slLo l)) w := by
    intro e n a len cap hu hz hc hk
    have := sliceBounds_run (P := P) (w := w) true hc h1 h2 h3 hk
    simp [Instr.sliceAt, Instr.slice, run_underlying hu, this, hz]
  have mx_le : ∀ {len cap : Nat}, len ≤ cap → slChk l u m len = true → slHi u len ≤ slMax m cap ∧ slMax m cap ≤ cap := by
    intro len cap hc hk
    have := slChk_le hk
    cases m with
    | none => simp [slMax, slHi] at *; omega
    | some m => simp [slMax, slHi] at *; omega
  unfold sliceOp
  split
  · rename_i s
    split
    · cases h
      have hu : P.underlying t = some .string := isStr_und hT (by simpa [fitsTy] using hf)
      refine .cv hr hp fun hk => ?_
      rcases h3 with ⟨rfl, _⟩ | ⟨k, i, _, h⟩
      · have := sliceBounds_run (P := P) (w := w) false (Nat.le_refl s.length) h1 h2 (.inl ⟨rfl, rfl⟩) hk
        have hsz : (ByteArray.mk s.toArray).size = s.length := by simp [ByteArray.size]
        refine ⟨.string ((ByteArray.mk s.toArray).extract (slLo l) (slHi u s.length)), by simp [Instr.sliceAt, Instr.slice, run_underlying hu, hsz, this], ?_⟩
        have e : (ByteArray.mk s.toArray).extract (slLo l) (slHi u s.length) = ⟨(cutL l u s).toArray⟩ := by
          rw [cutL_eq hk]
          apply ByteArray.ext
          apply Array.ext'
          simp [ByteArray.data_extract, Array.toList_extract, List.extract_eq_take_drop]
        rw [e]; exact .str _
      · simp at h
    · trivial
  · rename_i t' s f
    obtain ⟨e, n, hu, hz, hsz⟩ := fitsTy_slice hT hf (by simp)
    simp [avSz] at hsz
    subst hsz
    cases h with
    | sl _ _ _ a cap q1 q2 q3 =>
    refine OkV.pure hr hp fun hk => ?_
    refine ⟨_, sl e _ a s.length cap hu hz q1 hk, ?_⟩
    have hle := slChk_le hk
    have hm := mx_le q1 hk
    have hlen := cutL_length hk
    have hfull := slEq_full hk q2 q1
    have hrow : RowR x.hp x.fz (csz t') (DeepC x.hp x.fz t') (cutL l u s) (if slMax m cap = slLo l then a else a.map (·.add (slLo l * csz t'))) := by
      intro hne
      have hpos : 0 < (cutL l u s).length := List.length_pos_iff.2 hne
      rw [hlen] at hpos
      rw [if_neg (by omega)]
      obtain ⟨b, o, c, e', fr, rfl, hok, hb, hd⟩ := q3 (by rintro rfl; simp only [List.length_nil] at hle hpos; omega)
      refine ⟨b, o + slLo l * csz t', c, e', fr, by simp [addr_add], hok, hb, fun i hi => ?_⟩
      rw [hlen] at hi
      have := hd (slLo l + i) (by omega)
      have e1 : (cutL l u s)[i]'(by rw [hlen]; exact hi) = s[slLo l + i]'(by omega) := by
        simp only [cutL_eq hk]
        simp
      rw [e1]
      have e2 : o + slLo l * csz t' + i * csz t' = o + (slLo l + i) * csz t' := by rw [Nat.add_mul]; omega
      rw [e2]; exact this
    cases hb : slEq u m with
    | true =>
      have := RV.sl t' (cutL l u s) (slFull f u m) _ (slMax m cap - slLo l) (by rw [hlen]; omega) (fun hh => by rw [hlen]; exact hfull true hb hh) hrow
      rw [hlen] at this
      exact this
    | false =>
      have := RV.sl t' (cutL l u s) false _ (slMax m cap - slLo l) (by rw [hlen]; omega) (by simp) hrow
      rw [hlen] at this
      exact this
  · obtain ⟨e, n, hu, hz, hsz⟩ := fitsTy_slice hT hf (by simp)
    cases h
    refine .cv hr hp fun hk => ?_
    refine ⟨_, sl e n none 0 0 hu hz (Nat.le_refl _) hk, ?_⟩
    have hle := slChk_le hk
    have hm := mx_le (Nat.le_refl 0) hk
    have e1 : slHi u 0 - slLo l = 0 := by omega
    have e2 : slMax m 0 - slLo l = 0 := by omega
    rw [e1, e2]
    simp
    exact .nilsl
  · rename_i tk f
    split
    · rename_i len hlen
      obtain ⟨e, n, hu, hz, hsz⟩ := fitsTy_slice hT hf (by simp)
      simp at hsz
      have : ∃ t' y, AF x.H tk t' y ∧ len = y.length := by
        simp only [lenH] at hlen
        split at hlen
        · rename_i t' y hg; exact ⟨t', y, .inl hg, by simpa using hlen.symm⟩
        · rename_i t' y hg; exact ⟨t', y, .inr hg, by simpa using hlen.symm⟩
        · simp at hlen
      obtain ⟨t', y, ha, rfl⟩ := this
      rw [avSz_AF ha] at hsz
      simp only [Option.some.injEq] at hsz; subst hsz
      cases h with
      | who _ _ a nn cap q =>
      obtain ⟨g1, g2, g3, g4⟩ := q t' y ha
      subst g1
      have part : slChk l u m y.length = true → ∀ ff : Bool, (ff = true → slMax m cap - slLo l = slHi u y.length - slLo l) →
          RV x (.ref tk (slLo l) (slHi u y.length - slLo l) ff) (.slice (if slMax m cap = slLo l then a else a.map (·.add (slLo l * csz t'))) (slHi u y.length - slLo l) (slMax m cap - slLo l)) := by
        intro hk ff hff
        have hle := slChk_le hk
        have hm := mx_le g2 hk
        refine .ref _ _ _ _ _ _ fun t'' y' ha' => ?_
        obtain ⟨rfl, hy⟩ := ha.unique ha'
        cases hy
        refine ⟨by omega, by omega, hff, ?_⟩
        by_cases hz0 : slMax m cap = slLo l
        · exact .inl ⟨by omega, by omega⟩
        · rcases g4 with ⟨g5, g6⟩ | ⟨b, o, c, e', fr, g5, rfl, g7, g8⟩
          · omega
          · refine .inr ⟨b, o, c, e', fr, g5, by simp [hz0, addr_add], g7, ?_⟩
            have : (slLo l + (slMax m cap - slLo l)) * csz t' ≤ (0 + cap) * csz t' := Nat.mul_le_mul_right _ (by omega)
            omega
      split
      · rename_i h1' h2' h3'
        refine .v hr hp ⟨_, sl e _ a y.length cap hu hz g2 rfl, ?_⟩
        simp only [slMax, slHi, slLo, Nat.sub_zero, Nat.zero_mul]
        have e1 : (if cap = 0 then a else a.map (·.add 0)) = a := by
          split
          · rfl
          · cases a <;> simp [Addr.add]
        rw [e1]
        exact .who tk f a y.length cap q
      · refine OkV.pure hr hp fun hk => ?_
        refine ⟨_, sl e _ a y.length cap hu hz g2 hk, ?_⟩
        have hfull := slEq_full hk g3 g2
        cases hb : slEq u m with
        | true => exact part hk _ fun hh => hfull true hb hh
        | false => exact part hk _ fun hh => by simp at hh
    · trivial
  · rename_i tk off len f
    obtain ⟨e, n, hu, hz, hsz⟩ := fitsTy_slice hT hf (by simp)
    simp at hsz
    cases h with
    | ref _ _ _ _ a cap q =>
    have : ∃ t' l, AF x.H tk t' l := by
      simp only [avSz] at hsz
      split at hsz
      · rename_i t' l hg; exact ⟨t', l, .inl hg⟩
      · rename_i t' l hg; exact ⟨t', l, .inr hg⟩
      · simp at hsz
    obtain ⟨t', y, ha⟩ := this
    rw [avSz_AF' ha] at hsz
    simp only [Option.some.injEq] at hsz; subst hsz
    obtain ⟨g1, g2, g3, g4⟩ := q t' y ha
    have part : slChk l u m len = true → ∀ ff : Bool, (ff = true → slMax m cap - slLo l = slHi u len - slLo l) →
        RV x (.ref tk (off + slLo l) (slHi u len - slLo l) ff) (.slice (if slMax m cap = slLo l then a else a.map (·.add (slLo l * csz t'))) (slHi u len - slLo l) (slMax m cap - slLo l)) := by
      intro hk ff hff
      have hle := slChk_le hk
      have hm := mx_le g2 hk
      refine .ref _ _ _ _ _ _ fun t'' y' ha' => ?_
      obtain ⟨rfl, hy⟩ := ha.unique ha'
      cases hy
      refine ⟨by omega, by omega, hff, ?_⟩
      by_cases hz0 : slMax m cap = slLo l
      · exact .inl ⟨by omega, by omega⟩
      · rcases g4 with ⟨g5, g6⟩ | ⟨b, o, c, e', fr, g5, rfl, g7, g8⟩
        · omega
        · refine .inr ⟨b, o, c, e', fr, g5, by simp [hz0, addr_add, Nat.add_mul, Nat.add_assoc], g7, ?_⟩
          have : (off + slLo l + (slMax m cap - slLo l)) * csz t' ≤ (off + cap) * csz t' := Nat.mul_le_mul_right _ (by omega)
          omega
    refine OkV.pure hr hp fun hk => ?_
    refine ⟨_, sl e _ a len cap hu hz g2 hk, ?_⟩
    have hfull := slEq_full hk g3 g2
    cases hb : slEq u m with
    | true => exact part hk _ fun hh => hfull true hb hh
    | false => exact part hk _ fun hh => by simp at hh
  · trivial

/-! ### conversions, lengths -/
theorem shows_all (x : Cx) (ts : List Nat) : Shows x (fun _ => True) ts := fun _ _ _ _ _ _ _ _ => trivial

include hr hp in
/-- A slice of bytes, read as it lies. -/
theorem bytes_read {av : AV} {v : Value} {l : List Int} (h : RV x av v) (ho : toDen x.H (.sl (.int .u8)) av = some l) {src dst e : Nat}
    (hs : P.underlying src = some (.slice e)) (he : P.underlying e = some (.int .u8)) (hd : P.underlying dst = some .string) :
    (Go.convert src dst v).run P w = .ok (.string ⟨(bytesOf l).toArray⟩) w := by
  have := toDen_deep hr (fz' := fun _ => True) (fun _ _ => trivial) h (shows_all _ _) ho
  obtain ⟨_, a, cap, hv, hc, hrow⟩ := this
  simp only [List.cons.injEq, and_true] at hv
  subst hv
  by_cases hl : l = []
  · subst hl
    cases a with
    | none => rw [run_convert_bytes_nil w src e hs he _ _ dst hd]; rfl
    | some ad =>
      rw [run_convert_bytes_string w src dst e _ _ _ hs he hd]
      simp [Conv.bytesToString, loadCells, loadCellsFrom, bytesOf]
      rfl
  · obtain ⟨b, o, c, e', fr, rfl, _, hb, hi⟩ := hrow hl
    rw [hp] at hb
    have := run_convert_bytes_arg (P := P) w src e hs he b o l.length cap l rfl (fun i hlt => by
      have h1 := hi i hlt
      simp only [DeepC, csz, Nat.mul_one] at h1
      have h2 := range_row (o := o + i) (n := 1) hb 0 (.int .u8 l[i]) (by rw [h1]; rfl)
      simp only [Nat.add_zero] at h2
      rw [h2]
      simp [List.getD, hlt]) dst hd
    rw [this]; rfl

include hT hr hp in
theorem convert_sound {src dst : Nat} {ax : AV} {vx : Value} (h : RV x ax vx)
    (hnew : ∀ (e : Nat) (s : List UInt8), P.underlying dst = some (.slice e) → P.underlying e = some (.int .u8) → (P.underlying src).isSome = true →
      OkV P x n0 tok w (Go.convert src dst (.string ⟨s.toArray⟩)) (.v (.who tok false) (hput x.H tok (.arr (.int .u8) (s.map fun b => (b.toNat : Int)))))) :
    OkV P x n0 tok w (Go.convert src dst vx) (convert C src dst ax tok x.H) := by
  unfold convert
  split
  · rename_i ti ts hti hts
    have ok := hT _ _ hti
    have oks := hT _ _ hts
    obtain ⟨d, hd, hsh⟩ := ok.desc
    obtain ⟨ds, hds, hshs⟩ := oks.desc
    split
    · rename_i k k' n hs
      cases h
      exact .v hr hp ⟨_, by simp [Go.convert, run_underlying hds, run_underlying (ok.int hs), Conv.intToInt], .int _ _⟩
    · rename_i s hs
      cases h
      have hu := ok.str hs
      refine .v hr hp ⟨.string ⟨s.toArray⟩, ?_, .str _⟩
      cases ds <;> simp [Go.convert, run_underlying hds, run_underlying hu]
    · rename_i e s hs
      split
      · rename_i te hte
        split
        · rename_i hse
          cases h
          exact hnew e s (ok.slice hs) ((hT _ _ hte).int hse) (by simp [hds])
        · trivial
      · trivial
    · rename_i ax' hs hn
      split
      · rename_i e hse
        split
        · rename_i te hte
          split
          · rename_i hu8
            split
            · rename_i l hl
              refine .v hr hp ⟨_, bytes_read hr hp h hl (oks.slice hse) ((hT _ _ hte).int hu8) (ok.str hs), .str _⟩
            · trivial
          · trivial
        · trivial
      · trivial
    · trivial
  · trivial

include hT hr hp in
theorem convert_sound' {src dst : Nat} {ax : AV} {vx : Value} (h : RV x ax vx) (hel : eltSz C dst = none) :
    OkV P x n0 tok w (Go.convert src dst vx) (convert C src dst ax tok x.H) := by
  unfold convert
  split
  · rename_i ti ts hti hts
    have ok := hT _ _ hti
    have oks := hT _ _ hts
    obtain ⟨d, hd, hsh⟩ := ok.desc
    obtain ⟨ds, hds, hshs⟩ := oks.desc
    split
    · rename_i k k' n hs
      cases h
      exact .v hr hp ⟨_, by simp [Go.convert, run_underlying hds, run_underlying (ok.int hs), Conv.intToInt], .int _ _⟩
    · rename_i s hs
      cases h
      have hu := ok.str hs
      refine .v hr hp ⟨.string ⟨s.toArray⟩, ?_, .str _⟩
      cases ds <;> simp [Go.convert, run_underlying hds, run_underlying hu]
    · rename_i e s hse
      split
      · rename_i te hte
        simp [eltSz, hti, hse, hte] at hel
      · trivial
    · rename_i ax' hs hn
      split
      · rename_i e hse
        split
        · rename_i te hte
          split
          · rename_i hu8
            split
            · rename_i l hl
              refine .v hr hp ⟨_, bytes_read hr hp h hl (oks.slice hse) ((hT _ _ hte).int hu8) (ok.str hs), .str _⟩
            · trivial
          · trivial
        · trivial
      · trivial
    · trivial
  · trivial

include hT hr hp in
theorem len_sound {t ty : Nat} {ts : List Nat} {ax : AV} {vx : Value} {n : Int} (hf : fitsTy C t ax x.H = true) (h : RV x ax vx) (hn : lenOf ax x.H = some n) :
    OkV P x n0 tok w (Builtin.len_ (t :: ts).toArray ty #[vx]) (.v (.int .i64 n) x.H) := by
  have sl : ∀ e a len cap, P.underlying t = some (.slice e) → (Builtin.len_ (t :: ts).toArray ty #[.slice a len cap]).run P w = .ok (.int .i64 len) w := by
    intro e a len cap hu
    simp [Builtin.len_, run_underlying hu, goInt]
  cases ax with
  | str s =>
    have hu : P.underlying t = some .string := isStr_und hT (by simpa [fitsTy] using hf)
    cases h
    simp [lenOf] at hn; subst hn
    refine .v hr hp ⟨_, ?_, .int _ _⟩
    have hsz : (ByteArray.mk s.toArray).size = s.length := by simp [ByteArray.size]
    simp [Builtin.len_, run_underlying hu, goInt, hsz]
  | sl t' l f =>
    obtain ⟨e, m, hu, hz, hsz⟩ := fitsTy_slice hT hf (by simp)
    cases h
    simp [lenOf] at hn; subst hn
    exact .v hr hp ⟨_, sl e _ _ _ hu, .int _ _⟩
  | nilsl =>
    obtain ⟨e, m, hu, hz, hsz⟩ := fitsTy_slice hT hf (by simp)
    cases h
    simp [lenOf] at hn; subst hn
    exact .v hr hp ⟨_, sl e _ _ _ hu, .int _ _⟩
  | who tk f =>
    obtain ⟨e, m, hu, hz, hsz⟩ := fitsTy_slice hT hf (by simp)
    cases h with
    | who _ _ a len cap q =>
    simp only [lenOf] at hn
    split at hn
    · rename_i t' l hg
      obtain ⟨g1, _⟩ := q t' l (.inl hg)
      simp only [Option.some.injEq] at hn; subst hn; subst g1
      exact .v hr hp ⟨_, sl e _ _ _ hu, .int _ _⟩
    · rename_i t' l hg
      obtain ⟨g1, _⟩ := q t' l (.inr hg)
      simp only [Option.some.injEq] at hn; subst hn; subst g1
      exact .v hr hp ⟨_, sl e _ _ _ hu, .int _ _⟩
    · simp at hn
  | ref tk off len f =>
    obtain ⟨e, m, hu, hz, hsz⟩ := fitsTy_slice hT hf (by simp)
    cases h
    simp [lenOf] at hn; subst hn
    exact .v hr hp ⟨_, sl e _ _ _ hu, .int _ _⟩
  | _ => simp [lenOf] at hn

include hr hp in
theorem maxmin_sound {mx : Bool} {ax ay av : AV} {vx vy : Value} (h1 : RV x ax vx) (h2 : RV x ay vy) (hm : maxmin mx ax ay = some av) (ts : Array Nat) (ty : Nat) :
    OkV P x n0 tok w (cond mx (Builtin.max_ ts ty #[vx, vy]) (Builtin.min_ ts ty #[vx, vy])) (.v av x.H) := by
  cases h1 with
  | int k a =>
    cases h2 with
    | int k' b =>
      simp only [maxmin] at hm
      split at hm
      · rename_i hk
        subst hk
        have hm := Option.some.inj hm
        subst hm
        cases mx with
        | true =>
          refine .v hr hp ⟨.int k (max a b), ?_, .int _ _⟩
          have e : (if b > a then b else a) = max a b := by omega
          simp [Builtin.max_, Builtin.max2]; omega
        | false =>
          refine .v hr hp ⟨.int k (min a b), ?_, .int _ _⟩
          have e : (if b < a then b else a) = min a b := by omega
          simp [Builtin.min_, Builtin.min2]; omega
      · simp at hm
    | _ => simp [maxmin] at hm
  | _ => simp [maxmin] at hm

/-! ### '==' on structs of numbers, truths and texts -/
def flatF (P : Program) : Nat → List Field → List AV → Bool
  | _, [], [] => true
  | i, f :: fs, z :: zs => !(f.name == "_") && (Nat.beq f.offset i && ((match (P.underlying f.type).map shOf, kindOf z with
    | some .bool, 1 => true
    | some (.int _), 2 => true
    | some .str, 3 => true
    | _, _ => false) && flatF P (i + 1) fs zs))
  | _, _, _ => false

theorem cellsEq_cons {a b : AV} {as bs : List AV} {c : Bool} (h : cellsEq (a :: as) (b :: bs) = some c) : ∃ p q, cellEq a b = some p ∧ cellsEq as bs = some q ∧ c = (p && q) := by
  cases as with
  | nil =>
    cases bs with
    | nil => exact ⟨c, true, by simpa [cellsEq] using h, rfl, by simp⟩
    | cons b' bs => simp [cellsEq] at h
  | cons a' as =>
    simp only [cellsEq] at h
    split at h
    · rename_i p q h1 h2
      cases h
      exact ⟨p, q, h1, h2, rfl⟩
    · cases h

theorem scalar_part {t : Nat} {d : TypeDesc} (h : P.underlying t = some d) (hs : ∀ fs, d ≠ .struct fs) (ha : ∀ n e, d ≠ .array n e) {xs : Array Value} {i : Nat} {v : Value} (hv : xs[i]? = some v) (w : World) :
    (Go.part t xs i).run P w = Result.ok v w := by
  have : (Go.isAgg t).run P w = .ok false w := by
    unfold Go.isAgg
    rw [Sem.run_bind, run_underlying h w]
    cases d <;> simp at hs ha ⊢
  unfold Go.part
  simp [Sem.run_bind, this, hv]

theorem eqFields_sound {x : Cx} (d : Nat) {xs ys : Array Value} (w : World) : ∀ (fs : List Field) (i : Nat) (zs cs ds : List AV) (vs us : List Value) (c : Bool), flatF P i fs zs = true → sameKinds cs zs = true → RVL x cs vs → RVL x ds us →
    (∀ j v, vs[j]? = some v → xs[i + j]? = some v) → (∀ j v, us[j]? = some v → ys[i + j]? = some v) → cellsEq cs ds = some c → (Op.eqFields (d + 1) xs ys fs).run P w = .ok c w
  | [], i, zs, cs, ds, vs, us, c, hf, hk, hc, hd, hx, hy, he => by
    cases zs with
    | cons z zs => simp [flatF] at hf
    | nil =>
      cases cs with
      | cons a as => simp [sameKinds] at hk
      | nil =>
        cases ds with
        | cons b bs => simp [cellsEq] at he
        | nil => simp [cellsEq] at he; subst he; simp [Op.eqFields]
  | f :: fs, i, zs, cs, ds, vs, us, c, hf, hk, hc, hd, hx, hy, he => by
    cases zs with
    | nil => simp [flatF] at hf
    | cons z zs =>
      cases cs with
      | nil => simp [sameKinds] at hk
      | cons a as =>
        cases ds with
        | nil => cases as <;> simp [cellsEq] at he
        | cons b bs =>
          simp only [flatF, Bool.and_eq_true, Bool.not_eq_true'] at hf
          obtain ⟨f1, f2, f3, f4⟩ := hf
          have f2 := beq_true f2
          simp only [sameKinds, Bool.and_eq_true] at hk
          obtain ⟨k1, k2⟩ := hk
          have k1 := beq_true k1
          obtain ⟨p, q, h1, h2, rfl⟩ := cellsEq_cons he
          cases hc with
          | cons _ v _ vs hv hvs =>
          cases hd with
          | cons _ u _ us hu hus =>
          have hv0 := hx 0 v rfl
          have hu0 := hy 0 u rfl
          simp only [Nat.add_zero] at hv0 hu0
          have hne : f.name ≠ "_" := by simpa using f1
          simp only [Op.eqFields]
          rw [if_pos hne, f2]
          have rest := eqFields_sound d w fs (i + 1) zs as bs vs us q f4 k2 hvs hus (fun j v h => by have := hx (j + 1) v (by simpa using h); rw [← this]; congr 1; omega)
            (fun j v h => by have := hy (j + 1) v (by simpa using h); rw [← this]; congr 1; omega) h2
          cases hu' : P.underlying f.type with
          | none => simp [hu'] at f3
          | some ds =>
            rw [hu'] at f3
            simp only [Option.map_some] at f3
            have eqv : (∀ fs, ds ≠ .struct fs) ∧ (∀ n e, ds ≠ .array n e) ∧ (Op.equalIn (d + 1) f.type v u).run P w = .ok p w := by
              rw [← k1] at f3
              cases a <;> simp only [kindOf] at f3 <;> cases ds <;> simp [shOf] at f3 <;> cases b <;> simp [cellEq] at h1 <;> cases hv <;> cases hu
              · subst h1; exact ⟨(fun _ => by simp), (fun _ _ => by simp), run_equalIn_bool' (P := P) w d _ _ _ hu'⟩
              · obtain ⟨rfl, rfl⟩ := h1
                refine ⟨(fun _ => by simp), (fun _ _ => by simp), ?_⟩
                rw [run_equalIn_int (P := P) w d _ _ _ _ _ hu']
                congr 1
              · subst h1
                refine ⟨(fun _ => by simp), (fun _ _ => by simp), ?_⟩
                rw [run_equalIn_string (P := P) w d _ _ _ hu']
                congr 1
                simp only [ByteArray.toList_eq, List.toList_toArray]
                exact Bool.eq_iff_iff.2 (by simp)
            obtain ⟨e1, e2, e3⟩ := eqv
            simp only [Sem.run_bind, scalar_part hu' e1 e2 hv0 w, scalar_part hu' e1 e2 hu0 w, e3, Result.andThen_ok, Sem.run_ite]
            cases p with
            | true => simp [rest]
            | false => simp

theorem eq_fits {t : Nat} {zero : List AV} (hu : P.underlying t = some (.struct (P.fieldsOf t))) (hg : P.eqGuardType P.depth t = false) (hp : P.stoodInHeld t = false) (hf : flatF P 0 (P.fieldsOf t).toList zero = true) : EqFits P t zero := by
  refine ⟨hg, fun x cs ds vs us c w h1 h2 hk he => ?_⟩
  show (Op.equalIn (9998 + 1 + 1) t _ _).run P w = _
  rw [run_equalIn_struct (P := P) w 9999 t _ _ hu hp]
  exact eqFields_sound 9998 w _ 0 zero cs ds vs us c hf hk h1 h2 (fun j v h => by simpa using h) (fun j v h => by simpa using h) he

end
end Go.Proofs.YtcdcijhfjiahkaaDoorR.K
