/- AstParts: the law's statement at this seat, the tied card: every call returns true and leaves its arguments as they were; listed variables are tied by the given tie. -/
import Derived.Test.YtgnkkanhjghhfaaGreatDoorRows
import Derived.Test.YtgnkkanhjghhfaaGreatDoorCards
import Derived.Test.YtgnkkanhjghhfaaGreatDoorTie
import Derived.Test.YtgnkkanhjghhfaaGreatDoorZ4
import Derived.Test.YtgnkkanhjghhfaaGreatDoorZ8
import Derived.Test.YtgnkkanhjghhfaaGreatDoorZ10
import Derived.WalkKit
import Derived.ProofKit
import Derived.OpenShut
import Derived.ShutString
import Derived.ChangeOld
import Derived.Below
import Derived.SizedLaws
import Derived.Lay
import Derived.LaidOnce
import Derived.SevenTiedAt
namespace Go.Proofs.YtgnkkanhjghhfaaGreatDoor.astParts
open Go.ChangeShapes Go.WideShapes Go.RowKit
set_option linter.unusedVariables false
set_option linter.unusedSimpArgs false
theorem own : ownKnob Tryz.prog.godebug = none := by kernel_rfl
theorem laidOut : laidOutB Tryz.prog = true := by kernel_rfl
set_option maxRecDepth 100000 in
theorem lifted (os : Os) (started : os.Started) (H : Type) (enc : TypeId × Value → H) :
    ReturnsInHanded {} Tryz.checked os 5 .any (fun w args => (Rows.astPartsSpec.pre enc Tryz.prog Tryz.f5 [] false w args ∧ laidMetH Tryz.prog Rows.astPartsRow.laid w) ∧ sizedMet enc Tryz.prog Tryz.f5 (OpenSpec.ofChange Rows.astPartsSpec) false w args)
      (Rows.astPartsSpec.post enc Tryz.prog Tryz.f5 false true false false) := by
  refine K.returns_both (C := Tryz.checked) (X := fun w _ => laidMetH Tryz.prog Rows.astPartsRow.laid w) (fun _ _ _ hh h => h.of_heap hh) own started (by kernel_rfl) Tryz.func5
    (ChangeSpec.witness_shaped (enc := enc) (C := Tryz.checked) (os := os) (X := fun w _ => laidMetH Tryz.prog Rows.astPartsRow.laid w) false (World.laidAll Tryz.prog os Rows.astPartsRow.laid) #[.agg #[.slice none 0 0, .slice none 0 0], .agg #[.slice none 0 0, .slice none 0 0], .int .i64 0, .string ByteArray.empty] 8 (World.laidAll_os _ _ _)
      (World.shaped_of_ZipB (by kernel_rfl) (by kernel_rfl)) (by kernel_rfl) (by kernel_rfl) (by kernel_rfl)
      (by rw [MakeChecks.laidMetH_plain _ _ _ (by kernel_rfl)]; exact laidMet_laidAll _ (by kernel_rfl) (by kernel_rfl))) ?_
  intro W base args ds gs before hval0 hW _ hX hsh
  have hval : ∀ (j : Nat) t v, Tryz.f5.params[j]? = some t → args[j]? = some v → Value.okWide Tryz.prog W .any base t v := hval0
  have hW' := hW
  obtain ⟨p, q, hA0, hV, rfl, hfz, hnd⟩ := hW
  have hA : DataW.TrodAll enc Tryz.prog W 0 (fun _ => true) true Tryz.f5.params.toList args.toList ds p := hA0
  rw [Tryz.params5] at hA hval
  obtain ⟨v0, vs0, d0, ds0, p0, q0, hargs, rfl, rfl, h0, r0⟩ := trodAll_cons hA
  obtain ⟨v1, vs1, d1, ds1, p1, q1, rfl, rfl, rfl, h1, r1⟩ := trodAll_cons r0
  obtain ⟨v2, vs2, d2, ds2, p2, q2, rfl, rfl, rfl, h2, r2⟩ := trodAll_cons r1
  obtain ⟨v3, vs3, d3, ds3, p3, q3, rfl, rfl, rfl, h3, r3⟩ := trodAll_cons r2
  obtain ⟨rfl, rfl, rfl⟩ := trodAll_nil r3
  obtain rfl : args = #[v0, v1, v2, v3] := by cases args; simp_all
  obtain ⟨rfl, rfl⟩ := trodVars_none hV
  simp only [List.append_nil] at hW'
  obtain ⟨y0, D0, F0⟩ := K.trod_den (C := K.CT) (P := Tryz.prog) (n := 12) (ty := (.pair (.sl (.pair (.int .i64) (.pair (.int .i64) (.pair (.int .i64) (.pair (.int .i64) (.pair (.pair .bool (.pair .str .str)) (.pair .str (.pair .bool (.pair (.pair .str (.pair (.int .i64) (.pair (.int .i64) (.pair .bool .bool)))) (.pair .str (.pair (.int .i64) (.pair (.int .i64) (.pair .bool .bool))))))))))))) (.sl (.int .i64)))) K.ctx_ok.ti (by kernel_rfl) (hval 0 25 v0 rfl rfl) h0
  obtain ⟨y1, D1, F1⟩ := K.trod_den (C := K.CT) (P := Tryz.prog) (n := 12) (ty := (.pair (.sl (.pair (.int .i64) (.pair (.int .i64) (.pair (.int .i64) (.pair (.int .i64) (.pair (.pair .bool (.pair .str .str)) (.pair .str (.pair .bool (.pair (.pair .str (.pair (.int .i64) (.pair (.int .i64) (.pair .bool .bool)))) (.pair .str (.pair (.int .i64) (.pair (.int .i64) (.pair .bool .bool))))))))))))) (.sl (.int .i64)))) K.ctx_ok.ti (by kernel_rfl) (hval 1 25 v1 rfl rfl) h1
  obtain ⟨y2, D2, F2⟩ := K.trod_den (C := K.CT) (P := Tryz.prog) (n := 12) (ty := (.int .i64)) K.ctx_ok.ti (by kernel_rfl) (hval 2 3 v2 rfl rfl) h2
  obtain ⟨y3, D3, F3⟩ := K.trod_den (C := K.CT) (P := Tryz.prog) (n := 12) (ty := .str) K.ctx_ok.ti (by kernel_rfl) (hval 3 9 v3 rfl rfl) h3
  have hlt0 : ∀ x ∈ p0, x.block < W.heap.size := fun x hx => hW'.lt x (by simp [hx])
  have hlt1 : ∀ x ∈ p1, x.block < W.heap.size := fun x hx => hW'.lt x (by simp [hx])
  have hlt2 : ∀ x ∈ p2, x.block < W.heap.size := fun x hx => hW'.lt x (by simp [hx])
  have hlt3 : ∀ x ∈ p3, x.block < W.heap.size := fun x hx => hW'.lt x (by simp [hx])
  have hP : K.abacistlaw13_AstParts y0 y1 y2 y3 = some true := K.AstParts y0 F0 y1 F1 y2 F2 y3 F3
  have hinv : K.CT.inv W := (cell_of_shapedOpen_int (g := 2) (t := 3) (zero := #[.int .i64 0]) (k := .i64) hsh (of_decide_eq_true (by kernel_rfl)) (by kernel_rfl) rfl (by kernel_rfl) (by kernel_rfl) (by kernel_rfl))
  refine (K.top_calls (C := K.CT) K.spec_ok (i := 5) (y := (y0, y1, y2, y3)) (r := true) hP (w := W) (fz0 := K.Old W) (vs := [v0, v1, v2, v3]) (fun b h => h) (by kernel_rfl) hinv (K.denL_2 D0 (K.denL_2 D1 (K.denL_2 D2 (K.denL_1 D3))))).mono fun e W' he => ?_
  obtain ⟨rfl, bel⟩ := K.ret_bool he
  exact ⟨_, rfl, _, _, _, [], _, [], hW', trodAll_mk1 (shut_bool Tryz.underlying4 _), (trodAll_cons_mk (Below.trod laidOut (by kernel_rfl) (of_decide_eq_true (by kernel_rfl)) h0 bel hlt0) (trodAll_cons_mk (Below.trod laidOut (by kernel_rfl) (of_decide_eq_true (by kernel_rfl)) h1 bel hlt1) (trodAll_cons_mk (Below.trod laidOut (by kernel_rfl) (of_decide_eq_true (by kernel_rfl)) h2 bel hlt2) (trodAll_cons_mk (Below.trod laidOut (by kernel_rfl) (of_decide_eq_true (by kernel_rfl)) h3 bel hlt3) trodAll_mk0)))), rfl, bel.frame _, fun h => by cases h⟩
theorem over : Rows.astPartsRow.holds Tryz.pinned (OpenSpec.ofChange Rows.astPartsSpec) :=
  OpenClaim.holds_of_wide 5 Tryz.f5 rfl rfl rfl rfl rfl rfl rfl ⟨rfl, rfl, rfl, rfl, rfl⟩ rfl rfl rfl rfl rfl (by kernel_rfl) Tryz.func5 (by kernel_rfl)
    (of_decide_eq_true (by kernel_rfl)) (by unfold Func.isWrapper; first | (rw [if_pos (by decide +kernel)]; kernel_rfl) | (rw [if_neg (by decide +kernel)]; exact ⟨rfl, rfl⟩))
    (fun os started H enc _ => lifted os started H enc)
theorem card : Rows.AstPartsCardSaid :=
  Claim7.holds_tied_plain_at .later [] [.data, .pinned] true (true, "c8c563b2dc61e99ff86e124a9c5e26b787cd0475eada2fcf4ebf4cbbabf85702") false over (fun _ h => by cases h) (by kernel_rfl) (fun _ h => by cases h) astParts_row_tie rfl ⟨rfl, rfl⟩ (by kernel_rfl) rfl
    (fun f fn hf hfn => by
      obtain rfl : f = 5 := Option.some.inj ((show Tryz.prog.funcNamed "abacist/abacistlaw13.AstParts" = some 5 by kernel_rfl).symm.trans hf) |>.symm
      obtain rfl : fn = Tryz.f5 := (Option.some.inj (Tryz.func5.symm.trans hfn)).symm
      exact ⟨(by kernel_rfl), fun j t ht => by
        rw [Tryz.params5] at ht
        have hm : t ∈ [25, 25, 3, 9] := by simpa using Array.mem_of_getElem? ht
        have hall : ([25, 25, 3, 9].all fun u => !Tryz.prog.wantsStandIn u) = true := by kernel_rfl
        exact (show Tryz.prog.wantsStandIn t = false by simpa using List.all_eq_true.1 hall t hm)⟩)
    (by kernel_rfl)
#print axioms card
end Go.Proofs.YtgnkkanhjghhfaaGreatDoor.astParts
namespace Go.Proofs.YtgnkkanhjghhfaaGreatDoor
theorem astParts_holds : Rows.AstPartsCardSaid := astParts.card
end Go.Proofs.YtgnkkanhjghhfaaGreatDoor
