-- by wip/xprint.py (this session's driver over the kit's print); Lean checks it
import Derived.Test.YtcdcijhfjiahkaaDoorRProg
import Derived.Below
import Derived.Deep.Draws
import Derived.Deep.AppendLies
import Derived.Maps.AppendAt
import Derived.OwnWalk
import Derived.Laws.BytesArg
import Derived.Laws.MakeOwn
import Derived.Laws.OwnMore
import Derived.Deep.OwnRows
import Derived.Tactics
import Derived.Lib.ConvBytes
import Derived.Laws.Slices
import Derived.WalkKit
import Derived.KernelRfl
import Derived.RowKit3
import Derived.Deep.LoopGhost
import Derived.Deep.QuietTactic
import Derived.BigQuiet
import Derived.WideLaws
import Derived.Deep.DeepCutAuto
import Derived.Deep.CutBlock
import Derived.Deep.RegionHeld3
import Derived.Laws.Rows
import Derived.Lib.AppendStr
import Derived.ArgAppend
import Derived.Laws.IdiomCopy
import Derived.OrdersHeld
import Derived.Laws.BitsLemmas
import Derived.RowKit
import Derived.Test.YtcdcijhfjiahkaaDoorRWWords
import Derived.Test.YtcdcijhfjiahkaaDoorRWLast
import Derived.Test.YtcdcijhfjiahkaaDoorRWTab
import Derived.Test.YtcdcijhfjiahkaaDoorRWFour
import Derived.Test.YtcdcijhfjiahkaaDoorRWQPut
import Derived.Test.YtcdcijhfjiahkaaDoorRWApart
import Derived.Test.YtcdcijhfjiahkaaDoorRWArr
import Derived.Test.YtcdcijhfjiahkaaDoorRWZeros
import Derived.Test.YtcdcijhfjiahkaaDoorRWFoot
import Derived.Test.YtcdcijhfjiahkaaDoorRWKept
import Derived.Test.YtcdcijhfjiahkaaDoorRWShare
import Derived.Test.YtcdcijhfjiahkaaDoorRWN
import Derived.Test.YtcdcijhfjiahkaaDoorRWFootNe
import Derived.Test.YtcdcijhfjiahkaaDoorRWAt
import Derived.Test.YtcdcijhfjiahkaaDoorRWEqStruct
import Derived.Test.YtcdcijhfjiahkaaDoorRWRepsOne
import Derived.Test.YtcdcijhfjiahkaaDoorRWInv
import Derived.Test.YtcdcijhfjiahkaaDoorRWInvWords
import Derived.Test.YtcdcijhfjiahkaaDoorRWGuard
import Derived.Test.YtcdcijhfjiahkaaDoorRWNEv
import Derived.Test.YtcdcijhfjiahkaaDoorRWMore
namespace Go.Proofs.YtcdcijhfjiahkaaDoorR.X
open Go.RowKit Go.Proofs.YtcdcijhfjiahkaaDoorRW.PrintWords Go.Proofs.YtcdcijhfjiahkaaDoorRW.PrintLast Go.Proofs.YtcdcijhfjiahkaaDoorRW.PrintMore
attribute [local go_sem] max2_int min2_int max_two min_two max_three min_three max_four min_four   -- for this text's walks alone
set_option linter.unusedVariables false
set_option linter.unusedSimpArgs false

def errW : Option Int → Value
  | none => .nilIface
  | some c => .iface 0 (.int .i64 c)
theorem errW_none : errW none = .nilIface := rfl
theorem errW_some (c : Int) : errW (some c) = .iface 0 (.int .i64 c) := rfl

theorem info3 : (Tryd.prog.info? 3).map (fun i => (i.zero, i.size, i.bytes)) = some (some (.int .i64 0), 1, 8) := by kernel_rfl
theorem info5 : (Tryd.prog.info? 5).map (fun i => (i.zero, i.size, i.bytes)) = some (some (.int .u8 0), 1, 1) := by kernel_rfl
theorem info86 : (Tryd.prog.info? 86).map (fun i => (i.zero, i.size, i.bytes)) = some (some (.int .u32 0), 1, 4) := by kernel_rfl
-- the values' own types

/-! ### '[]byte(s)' as a step: a row that is only read -/
def strBytes.f (a : ByteArray) : Option (List Int) := if a.size ≤ 9223372036854775807 then some (bytesOf a) else none
theorem strBytes.V (W : World) (e : TypeId) (s : ByteArray) (hs : s.size ≤ 9223372036854775807) :
    Kd.V (Kd.int .u8) e (Lib.bytesWorld W e s) W.heap.size (fun k_ => W.heap.size ≤ k_) (.slice (some ⟨W.heap.size, 0, none⟩) s.size (grownCap W s.size 0 e)) (bytesOf s) := by
  have hl := bytesOf_length s
  have hc : s.size ≤ grownCap W s.size 0 e := grownCap_ge W s.size 0 e
  refine ⟨_, _, by rw [hl], by rw [hl]; exact hc, ?_⟩
  intro W' hW
  have hb := hW W.heap.size (Nat.le_refl _) (by rw [Lib.bytesWorld_size]; omega)
  refine Kd.C_of_reads (d := (0 : Int)) (h1 := fun _ => rfl) ?_
  rw [hl]
  obtain ⟨h1, h2, h3⟩ := bytes_reads W e s hs
  refine ⟨h1, h2, fun hp => ?_⟩
  obtain ⟨ad, he, hcell⟩ := h3 hp
  cases he
  refine ⟨_, rfl, fun j hj => ?_⟩
  have h4 := hcell j hj
  rw [add_plain] at h4 ⊢
  rw [← h4]
  simp only [World.cell?, hb]
theorem conv_at {P : Program} {ops : Array Oper} {rest : List Oper} {o : Oper} {a : Act} {Q : Exit → Act → World → Prop} {W : World} (src dst e : TypeId)
    {u : TypeDesc} (hs : P.underlying src = some u) (hd : P.underlying dst = some (.slice e)) (he : P.underlying e = some (.int .u8))
    (hg : o.guard = none) {N : Tmp} (_hN : o.dst = some N) {x : Operand} (ho : o.op = .convert src dst x) {s : ByteArray} (hx : a.eval x = .string s) {r : List Int} (h : strBytes.f s = some r)
    (k : ∀ v1 w1, Kd.V (Kd.int .u8) e w1 W.heap.size (fun k_ => W.heap.size ≤ k_) v1 r → Below W.heap.size W w1 → wpList P ops Q rest (a.put o.dst v1) w1) :
    wpList P ops Q (o :: rest) a W := by
  unfold strBytes.f at h
  split at h
  · rename_i hm
    obtain rfl := Option.some.inj h
    refine Kd.event_run hg (v := .slice (some ⟨W.heap.size, 0, none⟩) s.size (grownCap W s.size 0 e)) (w1 := Lib.bytesWorld W e s) ?_ (k _ _ (strBytes.V W e s hm) (bytes_below (Below.refl _ _) (Nat.le_refl _) e s))
    have := print_bytes (P := P) src dst e hs hd he s W
    simp [execOp, ho, hx, this]
  · cases h


end Go.Proofs.YtcdcijhfjiahkaaDoorR.X
