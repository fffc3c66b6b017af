/- Words for contracts by hand: rows of whole numbers in memory, as lists. -/
import Derived.Test.YtcdcijhfjiahkaaDoorRKP
import Derived.Laws.BytesArg
import Derived.Deep.OwnRows
import Derived.Laws.OwnMore
set_option linter.unusedVariables false
set_option linter.unusedSimpArgs false
namespace Go.Proofs.YtcdcijhfjiahkaaDoorR.K
open Go
open Go.RowKit (Below)
def rd (xs : List Int) (i : Int) : Int := xs.getD i.toNat 0
def nums (k : IntKind) (xs : List Int) : List Value := xs.map fun x => .int k x
theorem nums_append (k : IntKind) (xs ys : List Int) : nums k (xs ++ ys) = nums k xs ++ nums k ys := by simp [nums]
theorem add_plain (g j : Nat) : (⟨g, 0, none⟩ : Addr).add j = ⟨g, j, none⟩ := by unfold Addr.add; split <;> simp_all
def ReadsInt (w : World) (k : IntKind) (A : Option Addr) (n : Nat) (xs : List Int) : Prop :=
  xs.length = n ∧ n ≤ 9223372036854775807 ∧ (0 < n → ∃ ad, A = some ad ∧ ∀ j, j < n → w.cell? (ad.add j) = some (.int k (xs.getD j 0)))
theorem ReadsInt.at_ {w : World} {k : IntKind} {A : Option Addr} {n : Nat} {xs : List Int} (h : ReadsInt w k A n xs) (i : Int) (h0 : 0 ≤ i) (h1 : i < n) : ∃ ad, A = some ad ∧ w.cell? (ad.add i.toNat) = some (.int k (rd xs i)) := by
  obtain ⟨ad, e, hc⟩ := h.2.2 (by omega)
  exact ⟨ad, e, hc _ (by omega)⟩
theorem own_base {w : World} {base : Nat} {e : TypeId} {size n : Nat} {v : Value} {xs : List Value} (h : w.ownsRow base e size v n xs) (k : Nat) (hk : v.ownBlock = some k) : base ≤ k := by
  rcases h.2 with ⟨rfl, _⟩ | ⟨g, cap, cur, rfl, hb, _⟩
  · simp [Value.ownBlock] at hk
  · have : g = k := by simpa [Value.ownBlock] using hk
    omega
theorem own_string {P : Program} {w : World} {base n : Nat} {e' src dst e : TypeId} {v : Value} {xs : List Int} (hs : P.underlying src = some (.slice e)) (he : P.underlying e = some (.int .u8)) (hd : P.underlying dst = some .string)
    (h : w.ownsRow base e' 1 v n (nums .u8 xs)) : (Go.convert src dst v).run P w = .ok (.string (strOfNums xs)) w := by
  have hl : xs.length = n := by have := h.1; simp [nums] at this; exact this
  rcases h.2 with ⟨rfl, rfl⟩ | ⟨g, cap, cur, rfl, _⟩
  · obtain rfl : xs = [] := List.eq_nil_of_length_eq_zero hl
    exact run_convert_bytes_nil w src e hs he 0 0 dst hd
  · refine run_convert_bytes_arg w src e hs he g 0 n cap xs hl (fun i hi => ?_) dst hd
    have hc := h.cells (g := g) rfl i (.int .u8 (xs.getD i 0)) (by simp [nums, List.getElem?_eq_getElem (show i < xs.length by omega), List.getD_eq_getElem?_getD])
    have ha : (⟨g, 0, none⟩ : Addr).add i = ⟨g, 0 + i, none⟩ := by unfold Addr.add; split <;> simp_all
    rwa [ha] at hc

/-- A list of numbers that lies in blocks of S. -/
def Nums (hp : Array Obj) (S : Nat → Prop) (k : IntKind) (A : Option Addr) (l : List Int) : Prop := RowR hp S (csz (.int k)) (DeepC hp S (.int k)) l A
theorem Nums.mono {hp hp' : Array Obj} {S S' : Nat → Prop} {k : IntKind} {A : Option Addr} {l : List Int} (h : Nums hp S k A l) (H : ∀ b, S b → S' b ∧ hp'[b]? = hp[b]?) : Nums hp' S' k A l := RowR.mono (t := .int k) H h
theorem Nums.reads {w : World} {S : Nat → Prop} {k : IntKind} {A : Option Addr} {l : List Int} (h : Nums w.heap S k A l) (hl : l.length ≤ 9223372036854775807) : ReadsInt w k A l.length l := by
  refine ⟨rfl, hl, fun h0 => ?_⟩
  obtain ⟨b, o, c, e, fr, rfl, _, hb, hi⟩ := h (List.length_pos_iff.1 h0)
  refine ⟨_, rfl, fun j hj => ?_⟩
  have h1 : row c (o + j * 1) 1 = [Value.int k l[j]] := hi j hj
  have h2 : c[o + j]? = some (Value.int k l[j]) := by
    have := congrArg (fun l => l[0]?) h1
    simp only [row, Nat.mul_one] at this
    rw [List.getElem?_take_of_lt (by omega), List.getElem?_drop] at this
    simpa using this
  have ha : (⟨b, o, none⟩ : Addr).add j = ⟨b, o + j, none⟩ := by unfold Addr.add; split <;> simp_all
  rw [ha]
  simp only [World.cell?, hb, h2, List.getD_eq_getElem?_getD, List.getElem?_eq_getElem hj]
  rfl
theorem unSl {hp : Array Obj} {ok : Nat → Prop} {k : IntKind} {l : List Int} {vs : List Value} (h : DenL hp ok [.sl (.int k)] l vs) : ∃ A c, vs = [.slice A l.length c] ∧ l.length ≤ c ∧ Nums hp ok k A l := by
  have hE : ∃ v, vs = [v] ∧ DenV hp ok (.sl (.int k)) l v := h
  obtain ⟨v, rfl, h1⟩ := hE
  have h2 : Ty.sl (.int k) ≠ .unit ∧ DeepC hp ok (.sl (.int k)) l [v] := h1
  obtain ⟨a, cap, e, hc, hr⟩ := h2.2
  cases e
  exact ⟨a, cap, rfl, hc, hr⟩
theorem slDen {hp : Array Obj} {ok : Nat → Prop} {k : IntKind} {l : List Int} {A : Option Addr} {c : Nat} (hc : l.length ≤ c) (h : Nums hp ok k A l) : DenL hp ok [.sl (.int k)] l [.slice A l.length c] := by
  show ∃ v, _ = [v] ∧ DenV hp ok (.sl (.int k)) l v
  refine ⟨_, rfl, ?_⟩
  show Ty.sl (.int k) ≠ .unit ∧ DeepC hp ok (.sl (.int k)) l _
  exact ⟨by simp, A, c, rfl, hc, h⟩
theorem ret_str {w w' : World} {fz0 : Nat → Prop} {r : List UInt8} {e : Ending} (h : RetT [.str] w fz0 r e w') : e = .returned (.string ⟨r.toArray⟩) ∧ Below w.heap.size w w' := by
  obtain ⟨v, rfl, hb, ow, ok, vs, _, _, _, rfl, hres⟩ := h
  have h1 : ∃ v, vs = [v] ∧ ResV w'.heap ok .str r v ow := hres
  obtain ⟨v, rfl, h2⟩ := h1
  have h3 : Ty.str ≠ .unit ∧ ResC w'.heap ok .str r [v] ow := h2
  have h4 : ow = [] ∧ [v] = [Value.string ⟨r.toArray⟩] := h3.2
  have h5 : v = .string ⟨r.toArray⟩ := by simpa using h4.2
  subst h5
  exact ⟨rfl, hb⟩
theorem ret_int {w w' : World} {fz0 : Nat → Prop} {k : IntKind} {r : Int} {e : Ending} (h : RetT [.int k] w fz0 r e w') : e = .returned (.int k r) ∧ Below w.heap.size w w' := by
  obtain ⟨v, rfl, hb, ow, ok, vs, _, _, _, rfl, hres⟩ := h
  have h1 : ∃ v, vs = [v] ∧ ResV w'.heap ok (.int k) r v ow := hres
  obtain ⟨v, rfl, h2⟩ := h1
  have h3 : Ty.int k ≠ .unit ∧ ResC w'.heap ok (.int k) r [v] ow := h2
  have h4 : ow = [] ∧ [v] = [Value.int k r] := h3.2
  have h5 : v = .int k r := by simpa using h4.2
  subst h5
  exact ⟨rfl, hb⟩
/-- A call that returns numbers which are not turned any more. -/
theorem ret_sl {w w' : World} {fz0 : Nat → Prop} {k : IntKind} {r : List Int} {e : Ending} (h : RetT [.sl (.int k)] w fz0 r e w') :
    ∃ A c, e = .returned (.slice A r.length c) ∧ r.length ≤ c ∧ Nums w'.heap (fun b => fz0 b ∨ (w.heap.size ≤ b ∧ b < w'.heap.size)) k A r ∧ Below w.heap.size w w' := by
  obtain ⟨v, rfl, hb, ow, ok, vs, hok, _, _, rfl, hres⟩ := h
  have h1 : ∃ v, vs = [v] ∧ ResV w'.heap ok (.sl (.int k)) r v ow := hres
  obtain ⟨v, rfl, h2⟩ := h1
  have h3 : Ty.sl (.int k) ≠ .unit ∧ ResC w'.heap ok (.sl (.int k)) r [v] ow := h2
  have h4 : ow = [] ∧ DeepC w'.heap ok (.sl (.int k)) r [v] := ResC_plain (.sl (.int k)) r [v] ow rfl h3.2
  obtain ⟨a, cap, e, hc, hr⟩ := h4.2
  cases e
  exact ⟨a, cap, rfl, hc, Nums.mono hr (fun b hb => ⟨hok b hb, rfl⟩), hb⟩
theorem retT_ok {ts : List Ty} {r : den (tyL ts)} {w w' : World} {fz0 ok : Nat → Prop} (vs : List Value) (hok : ∀ b, ok b → fz0 b ∨ (w.heap.size ≤ b ∧ b < w'.heap.size)) (hb : Below w.heap.size w w') (ho : hasOwn (tyL ts) = false) (hd : DenL w'.heap ok ts r vs) :
    RetT ts w fz0 r (.returned (oneV vs)) w' :=
  ⟨_, rfl, hb, [], ok, vs, hok, List.nodup_nil, (fun b h => by cases h), rfl, plain_ResL _ ho hd⟩
theorem str_bytes (l : List Int) : strOfNums l = ⟨(bytesOf l).toArray⟩ := rfl
end Go.Proofs.YtcdcijhfjiahkaaDoorR.K
