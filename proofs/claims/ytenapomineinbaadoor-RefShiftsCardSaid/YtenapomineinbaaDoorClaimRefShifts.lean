/- RefShifts: the law's statement at this seat, the tied card: every call returns true and leaves its arguments as they were; listed variables are tied by the given tie. -/
import Derived.Test.YtenapomineinbaaDoorRows
import Derived.Test.YtenapomineinbaaDoorCards
import Derived.Test.YtenapomineinbaaDoorTie
import Derived.Test.YtenapomineinbaaDoorZ4
import Derived.Test.YtenapomineinbaaDoorZ5
import Derived.WalkKit
import Derived.ProofKit
import Derived.OpenShut
import Derived.ShutString
import Derived.ChangeOld
import Derived.Below
import Derived.SizedLaws
import Derived.Lay
import Derived.LaidOnce
import Derived.SevenTiedAt
namespace Go.Proofs.YtenapomineinbaaDoor.refShifts
open Go.ChangeShapes Go.WideShapes Go.RowKit
set_option linter.unusedVariables false
set_option linter.unusedSimpArgs false
theorem own : ownKnob Tryd.prog.godebug = none := by kernel_rfl
theorem laidOut : laidOutB Tryd.prog = true := by kernel_rfl
set_option maxRecDepth 100000 in
theorem lifted (os : Os) (started : os.Started) (H : Type) (enc : TypeId × Value → H) :
    ReturnsInHanded {} Tryd.checked os 4 .any (fun w args => (Rows.refShiftsSpec.pre enc Tryd.prog Tryd.f4 [] false w args ∧ laidMetH Tryd.prog Rows.refShiftsRow.laid w) ∧ sizedMet enc Tryd.prog Tryd.f4 (OpenSpec.ofChange Rows.refShiftsSpec) false w args)
      (Rows.refShiftsSpec.post enc Tryd.prog Tryd.f4 false true false false) := by
  refine K.returns_both (C := Tryd.checked) (X := fun w _ => laidMetH Tryd.prog Rows.refShiftsRow.laid w) (fun _ _ _ hh h => h.of_heap hh) own started (by kernel_rfl) Tryd.func4
    (ChangeSpec.witness_shaped (enc := enc) (C := Tryd.checked) (os := os) (X := fun w _ => laidMetH Tryd.prog Rows.refShiftsRow.laid w) false (World.laidAll Tryd.prog os Rows.refShiftsRow.laid) #[.agg #[.string ByteArray.empty, .int .i64 0, .int .i64 0, .bool false, .bool false], .agg #[.string ByteArray.empty, .int .i64 0, .int .i64 0, .bool false, .bool false], .agg #[.int .i64 0, .int .i64 0, .int .i64 0]] 8 (World.laidAll_os _ _ _)
      (World.shaped_of_ZipB (by kernel_rfl) (by kernel_rfl)) (by kernel_rfl) (by kernel_rfl) (by kernel_rfl)
      (by rw [MakeChecks.laidMetH_plain _ _ _ (by kernel_rfl)]; exact laidMet_laidAll _ (by kernel_rfl) (by kernel_rfl))) ?_
  intro W base args ds gs before hval0 hW _ hX hsh
  have hval : ∀ (j : Nat) t v, Tryd.f4.params[j]? = some t → args[j]? = some v → Value.okWide Tryd.prog W .any base t v := hval0
  have hW' := hW
  obtain ⟨p, q, hA0, hV, rfl, hfz, hnd⟩ := hW
  have hA : DataW.TrodAll enc Tryd.prog W 0 (fun _ => true) true Tryd.f4.params.toList args.toList ds p := hA0
  rw [Tryd.params4] at hA hval
  obtain ⟨v0, vs0, d0, ds0, p0, q0, hargs, rfl, rfl, h0, r0⟩ := trodAll_cons hA
  obtain ⟨v1, vs1, d1, ds1, p1, q1, rfl, rfl, rfl, h1, r1⟩ := trodAll_cons r0
  obtain ⟨v2, vs2, d2, ds2, p2, q2, rfl, rfl, rfl, h2, r2⟩ := trodAll_cons r1
  obtain ⟨rfl, rfl, rfl⟩ := trodAll_nil r2
  obtain rfl : args = #[v0, v1, v2] := by cases args; simp_all
  obtain ⟨rfl, rfl⟩ := trodVars_none hV
  simp only [List.append_nil] at hW'
  obtain ⟨y0, D0, F0⟩ := K.trod_den (C := K.CT) (P := Tryd.prog) (n := 12) (ty := (.pair .str (.pair (.int .i64) (.pair (.int .i64) (.pair .bool .bool))))) K.ctx_ok.ti (by kernel_rfl) (hval 0 23 v0 rfl rfl) h0
  obtain ⟨y1, D1, F1⟩ := K.trod_den (C := K.CT) (P := Tryd.prog) (n := 12) (ty := (.pair .str (.pair (.int .i64) (.pair (.int .i64) (.pair .bool .bool))))) K.ctx_ok.ti (by kernel_rfl) (hval 1 23 v1 rfl rfl) h1
  obtain ⟨y2, D2, F2⟩ := K.trod_den (C := K.CT) (P := Tryd.prog) (n := 12) (ty := (.pair (.int .i64) (.pair (.int .i64) (.int .i64)))) K.ctx_ok.ti (by kernel_rfl) (hval 2 29 v2 rfl rfl) h2
  have hlt0 : ∀ x ∈ p0, x.block < W.heap.size := fun x hx => hW'.lt x (by simp [hx])
  have hlt1 : ∀ x ∈ p1, x.block < W.heap.size := fun x hx => hW'.lt x (by simp [hx])
  have hlt2 : ∀ x ∈ p2, x.block < W.heap.size := fun x hx => hW'.lt x (by simp [hx])
  have hP : K.abacistlaw11_RefShifts y0 y1 y2 = some true := K.RefShifts y0 F0 y1 F1 y2 F2
  have hinv : K.CT.inv W := (cell_of_shapedOpen_int (g := 0) (t := 3) (zero := #[.int .i64 0]) (k := .i64) hsh (of_decide_eq_true (by kernel_rfl)) (by kernel_rfl) rfl (by kernel_rfl) (by kernel_rfl) (by kernel_rfl))
  refine (K.top_calls (C := K.CT) K.spec_ok (i := 4) (y := (y0, y1, y2)) (r := true) hP (w := W) (fz0 := K.Old W) (vs := [v0, v1, v2]) (fun b h => h) (by kernel_rfl) hinv (K.denL_2 D0 (K.denL_2 D1 (K.denL_1 D2)))).mono fun e W' he => ?_
  obtain ⟨rfl, bel⟩ := K.ret_bool he
  exact ⟨_, rfl, _, _, _, [], _, [], hW', trodAll_mk1 (shut_bool Tryd.underlying4 _), (trodAll_cons_mk (Below.trod laidOut (by kernel_rfl) (of_decide_eq_true (by kernel_rfl)) h0 bel hlt0) (trodAll_cons_mk (Below.trod laidOut (by kernel_rfl) (of_decide_eq_true (by kernel_rfl)) h1 bel hlt1) (trodAll_cons_mk (Below.trod laidOut (by kernel_rfl) (of_decide_eq_true (by kernel_rfl)) h2 bel hlt2) trodAll_mk0))), rfl, bel.frame _, fun h => by cases h⟩
theorem over : Rows.refShiftsRow.holds Tryd.pinned (OpenSpec.ofChange Rows.refShiftsSpec) :=
  OpenClaim.holds_of_wide 4 Tryd.f4 rfl rfl rfl rfl rfl rfl rfl ⟨rfl, rfl, rfl, rfl, rfl⟩ rfl rfl rfl rfl rfl (by kernel_rfl) Tryd.func4 (by kernel_rfl)
    (of_decide_eq_true (by kernel_rfl)) (by unfold Func.isWrapper; first | (rw [if_pos (by decide +kernel)]; kernel_rfl) | (rw [if_neg (by decide +kernel)]; exact ⟨rfl, rfl⟩))
    (fun os started H enc _ => lifted os started H enc)
theorem card : Rows.RefShiftsCardSaid :=
  Claim7.holds_tied_plain_at .later [] [.data, .data, .data] true (true, "b62d4cbd675ea5f01ae18f41ef173237873dfbd21bd4ff2565c603d9e831b9de") false over (fun _ h => by cases h) (by kernel_rfl) (fun _ h => by cases h) refShifts_row_tie rfl ⟨rfl, rfl⟩ (by kernel_rfl) rfl
    (fun f fn hf hfn => by
      obtain rfl : f = 4 := Option.some.inj ((show Tryd.prog.funcNamed "abacist/abacistlaw11.RefShifts" = some 4 by kernel_rfl).symm.trans hf) |>.symm
      obtain rfl : fn = Tryd.f4 := (Option.some.inj (Tryd.func4.symm.trans hfn)).symm
      exact ⟨by kernel_rfl, fun j t ht => by
        rw [Tryd.params4] at ht
        have hm : t ∈ [23, 23, 29] := by simpa using Array.mem_of_getElem? ht
        have hall : ([23, 23, 29].all fun u => !Tryd.prog.wantsStandIn u) = true := by kernel_rfl
        exact (show Tryd.prog.wantsStandIn t = false by simpa using List.all_eq_true.1 hall t hm)⟩)
    (by kernel_rfl)
#print axioms card
end Go.Proofs.YtenapomineinbaaDoor.refShifts
namespace Go.Proofs.YtenapomineinbaaDoor
theorem refShifts_holds : Rows.RefShiftsCardSaid := refShifts.card
end Go.Proofs.YtenapomineinbaaDoor
