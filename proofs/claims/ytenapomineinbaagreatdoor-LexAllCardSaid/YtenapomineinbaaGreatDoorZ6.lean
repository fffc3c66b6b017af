/- Part 6 of the proof: the machine, the tables and the pure laws that the last text joins. -/
import Derived.Test.YtenapomineinbaaGreatDoorZ3
import Derived.Test.YtenapomineinbaaGreatDoorZ4
import Derived.Test.YtenapomineinbaaGreatDoorZ5
import Derived.WalkKit
import Derived.BigCall
import Derived.Maps.AppendAt
import Derived.Shelf.Strings.BuilderK
import Derived.ScopeJumps
import Derived.WalkMore
import Derived.Laws.CopyOwn
/- The tables are the program's own. -/
set_option linter.unusedVariables false
set_option maxRecDepth 100000
namespace Go.Proofs.YtenapomineinbaaGreatDoor.C
open Go Go.Proofs.YtenapomineinbaaGreatDoor.K
theorem look_all {α : Type} {Q : Nat → α → Prop} : ∀ {l : List (Nat × α)}, (∀ p ∈ l, Q p.1 p.2) → ∀ t v, look l t = some v → Q t v
  | [], _, t, v, h => by cases h
  | (u, x) :: l, hl, t, v, h => by
    simp only [look] at h
    split at h
    · rename_i hb
      have := Nat.eq_of_beq_eq_true hb
      subst this
      cases h
      exact hl _ (List.mem_cons_self ..)
    · exact look_all (fun p hp => hl p (List.mem_cons_of_mem _ hp)) t v h
theorem all_nil {α : Type} {Q : Nat → α → Prop} : ∀ p ∈ ([] : List (Nat × α)), Q p.1 p.2 := fun p h => by cases h
theorem all_cons {α : Type} {Q : Nat → α → Prop} {u : Nat} {x : α} {l : List (Nat × α)} (h : Q u x) (hl : ∀ p ∈ l, Q p.1 p.2) : ∀ p ∈ (u, x) :: l, Q p.1 p.2 := fun p hp => by
  rcases List.mem_cons.1 hp with rfl | hp
  · exact h
  · exact hl p hp
theorem tiok3 : TIok Tryz.prog 3 ti3 := ⟨by kernel_rfl, by kernel_rfl, by kernel_rfl, by kernel_rfl, by kernel_rfl, by kernel_rfl, by kernel_rfl, by kernel_rfl, ⟨by kernel_rfl, by kernel_rfl, by kernel_rfl⟩, fun h => by cases h⟩
theorem tiok5 : TIok Tryz.prog 5 ti5 := ⟨by kernel_rfl, by kernel_rfl, by kernel_rfl, by kernel_rfl, by kernel_rfl, by kernel_rfl, by kernel_rfl, by kernel_rfl, ⟨by kernel_rfl, by kernel_rfl, by kernel_rfl⟩, fun h => by cases h⟩
theorem tiok9 : TIok Tryz.prog 9 ti9 := ⟨by kernel_rfl, by kernel_rfl, by kernel_rfl, by kernel_rfl, by kernel_rfl, by kernel_rfl, by kernel_rfl, by kernel_rfl, ⟨by kernel_rfl, by kernel_rfl, by kernel_rfl⟩, fun h => by cases h⟩
theorem tiok37 : TIok Tryz.prog 37 ti37 := ⟨by kernel_rfl, by kernel_rfl, by kernel_rfl, by kernel_rfl, by kernel_rfl, by kernel_rfl, by kernel_rfl, by kernel_rfl, ⟨by kernel_rfl, by kernel_rfl, by kernel_rfl⟩, fun h => by cases h⟩
theorem tiok88 : TIok Tryz.prog 88 ti88 := ⟨by kernel_rfl, by kernel_rfl, by kernel_rfl, by kernel_rfl, by kernel_rfl, by kernel_rfl, by kernel_rfl, by kernel_rfl, ⟨by kernel_rfl, by kernel_rfl, by kernel_rfl⟩, fun h => by cases h⟩
theorem tiok107 : TIok Tryz.prog 107 ti107 := ⟨by kernel_rfl, by kernel_rfl, by kernel_rfl, by kernel_rfl, by kernel_rfl, by kernel_rfl, by kernel_rfl, by kernel_rfl, trivial, fun h => by cases h⟩
theorem tiok131 : TIok Tryz.prog 131 ti131 := ⟨by kernel_rfl, by kernel_rfl, by kernel_rfl, by kernel_rfl, by kernel_rfl, by kernel_rfl, by kernel_rfl, by kernel_rfl, ⟨by kernel_rfl, by kernel_rfl, by kernel_rfl⟩, fun h => by cases h⟩
theorem tiok140 : TIok Tryz.prog 140 ti140 := ⟨by kernel_rfl, by kernel_rfl, by kernel_rfl, by kernel_rfl, by kernel_rfl, by kernel_rfl, by kernel_rfl, by kernel_rfl, ⟨by kernel_rfl, by kernel_rfl, by kernel_rfl⟩, fun h => by cases h⟩
theorem tiok144 : TIok Tryz.prog 144 ti144 := ⟨by kernel_rfl, by kernel_rfl, by kernel_rfl, by kernel_rfl, by kernel_rfl, by kernel_rfl, by kernel_rfl, by kernel_rfl, ⟨by kernel_rfl, by kernel_rfl, by kernel_rfl⟩, fun h => by cases h⟩
theorem tiok146 : TIok Tryz.prog 146 ti146 := ⟨by kernel_rfl, by kernel_rfl, by kernel_rfl, by kernel_rfl, by kernel_rfl, by kernel_rfl, by kernel_rfl, by kernel_rfl, ⟨by kernel_rfl, by kernel_rfl, by kernel_rfl⟩, fun h => by cases h⟩
theorem tiok149 : TIok Tryz.prog 149 ti149 := ⟨by kernel_rfl, by kernel_rfl, by kernel_rfl, by kernel_rfl, by kernel_rfl, by kernel_rfl, by kernel_rfl, by kernel_rfl, ⟨by kernel_rfl, by kernel_rfl, by kernel_rfl⟩, fun h => by cases h⟩
theorem tiok161 : TIok Tryz.prog 161 ti161 := ⟨by kernel_rfl, by kernel_rfl, by kernel_rfl, by kernel_rfl, by kernel_rfl, by kernel_rfl, by kernel_rfl, by kernel_rfl, ⟨by kernel_rfl, by kernel_rfl, by kernel_rfl⟩, fun h => by cases h⟩
theorem tis_ok : CtxTI Tryz.prog CT := look_all (l := tis) (all_cons tiok3 (all_cons tiok5 (all_cons tiok9 (all_cons tiok37 (all_cons tiok88 (all_cons tiok107 (all_cons tiok131 (all_cons tiok140 (all_cons tiok144 (all_cons tiok146 (all_cons tiok149 (all_cons tiok161 all_nil))))))))))))
def FnOk (f : Nat) (fn : Func) : Prop := Tryz.prog.funcs[f]? = some fn ∧ fn.body.isSome = true ∧ (fn.name == "runtime.NumGoroutine") = false
def ParOk (i : Nat) (fn : Func) : Prop := ((look ptsL i).getD []).length ≤ fn.ntmps
theorem fnok102 : FnOk 102 Tryz.f102 := ⟨Tryz.func102, by kernel_rfl, by kernel_rfl⟩
theorem parok102 : ParOk 102 Tryz.f102 := Nat.le_of_ble_eq_true (by kernel_rfl)
theorem fnok196 : FnOk 196 Tryz.f196 := ⟨Tryz.func196, by kernel_rfl, by kernel_rfl⟩
theorem parok196 : ParOk 196 Tryz.f196 := Nat.le_of_ble_eq_true (by kernel_rfl)
theorem fnok197 : FnOk 197 Tryz.f197 := ⟨Tryz.func197, by kernel_rfl, by kernel_rfl⟩
theorem parok197 : ParOk 197 Tryz.f197 := Nat.le_of_ble_eq_true (by kernel_rfl)
theorem fnok201 : FnOk 201 Tryz.f201 := ⟨Tryz.func201, by kernel_rfl, by kernel_rfl⟩
theorem parok201 : ParOk 201 Tryz.f201 := Nat.le_of_ble_eq_true (by kernel_rfl)
theorem fnok34 : FnOk 34 Tryz.f34 := ⟨Tryz.func34, by kernel_rfl, by kernel_rfl⟩
theorem parok34 : ParOk 34 Tryz.f34 := Nat.le_of_ble_eq_true (by kernel_rfl)
theorem fnok38 : FnOk 38 Tryz.f38 := ⟨Tryz.func38, by kernel_rfl, by kernel_rfl⟩
theorem parok38 : ParOk 38 Tryz.f38 := Nat.le_of_ble_eq_true (by kernel_rfl)
theorem fnok42 : FnOk 42 Tryz.f42 := ⟨Tryz.func42, by kernel_rfl, by kernel_rfl⟩
theorem parok42 : ParOk 42 Tryz.f42 := Nat.le_of_ble_eq_true (by kernel_rfl)
theorem fnok68 : FnOk 68 Tryz.f68 := ⟨Tryz.func68, by kernel_rfl, by kernel_rfl⟩
theorem parok68 : ParOk 68 Tryz.f68 := Nat.le_of_ble_eq_true (by kernel_rfl)
theorem fnok69 : FnOk 69 Tryz.f69 := ⟨Tryz.func69, by kernel_rfl, by kernel_rfl⟩
theorem parok69 : ParOk 69 Tryz.f69 := Nat.le_of_ble_eq_true (by kernel_rfl)
theorem fnok99 : FnOk 99 Tryz.f99 := ⟨Tryz.func99, by kernel_rfl, by kernel_rfl⟩
theorem parok99 : ParOk 99 Tryz.f99 := Nat.le_of_ble_eq_true (by kernel_rfl)
theorem fnok136 : FnOk 136 Tryz.f136 := ⟨Tryz.func136, by kernel_rfl, by kernel_rfl⟩
theorem parok136 : ParOk 136 Tryz.f136 := Nat.le_of_ble_eq_true (by kernel_rfl)
theorem fnok137 : FnOk 137 Tryz.f137 := ⟨Tryz.func137, by kernel_rfl, by kernel_rfl⟩
theorem parok137 : ParOk 137 Tryz.f137 := Nat.le_of_ble_eq_true (by kernel_rfl)
theorem fnok138 : FnOk 138 Tryz.f138 := ⟨Tryz.func138, by kernel_rfl, by kernel_rfl⟩
theorem parok138 : ParOk 138 Tryz.f138 := Nat.le_of_ble_eq_true (by kernel_rfl)
theorem fnok139 : FnOk 139 Tryz.f139 := ⟨Tryz.func139, by kernel_rfl, by kernel_rfl⟩
theorem parok139 : ParOk 139 Tryz.f139 := Nat.le_of_ble_eq_true (by kernel_rfl)
theorem fnok141 : FnOk 141 Tryz.f141 := ⟨Tryz.func141, by kernel_rfl, by kernel_rfl⟩
theorem parok141 : ParOk 141 Tryz.f141 := Nat.le_of_ble_eq_true (by kernel_rfl)
theorem fnok143 : FnOk 143 Tryz.f143 := ⟨Tryz.func143, by kernel_rfl, by kernel_rfl⟩
theorem parok143 : ParOk 143 Tryz.f143 := Nat.le_of_ble_eq_true (by kernel_rfl)
theorem fnok144 : FnOk 144 Tryz.f144 := ⟨Tryz.func144, by kernel_rfl, by kernel_rfl⟩
theorem parok144 : ParOk 144 Tryz.f144 := Nat.le_of_ble_eq_true (by kernel_rfl)
theorem fnok145 : FnOk 145 Tryz.f145 := ⟨Tryz.func145, by kernel_rfl, by kernel_rfl⟩
theorem parok145 : ParOk 145 Tryz.f145 := Nat.le_of_ble_eq_true (by kernel_rfl)
theorem fnok146 : FnOk 146 Tryz.f146 := ⟨Tryz.func146, by kernel_rfl, by kernel_rfl⟩
theorem parok146 : ParOk 146 Tryz.f146 := Nat.le_of_ble_eq_true (by kernel_rfl)
theorem fnok147 : FnOk 147 Tryz.f147 := ⟨Tryz.func147, by kernel_rfl, by kernel_rfl⟩
theorem parok147 : ParOk 147 Tryz.f147 := Nat.le_of_ble_eq_true (by kernel_rfl)
theorem fnok148 : FnOk 148 Tryz.f148 := ⟨Tryz.func148, by kernel_rfl, by kernel_rfl⟩
theorem parok148 : ParOk 148 Tryz.f148 := Nat.le_of_ble_eq_true (by kernel_rfl)
theorem fnok149 : FnOk 149 Tryz.f149 := ⟨Tryz.func149, by kernel_rfl, by kernel_rfl⟩
theorem parok149 : ParOk 149 Tryz.f149 := Nat.le_of_ble_eq_true (by kernel_rfl)
theorem fnok150 : FnOk 150 Tryz.f150 := ⟨Tryz.func150, by kernel_rfl, by kernel_rfl⟩
theorem parok150 : ParOk 150 Tryz.f150 := Nat.le_of_ble_eq_true (by kernel_rfl)
theorem fnok151 : FnOk 151 Tryz.f151 := ⟨Tryz.func151, by kernel_rfl, by kernel_rfl⟩
theorem parok151 : ParOk 151 Tryz.f151 := Nat.le_of_ble_eq_true (by kernel_rfl)
theorem fnok156 : FnOk 156 Tryz.f156 := ⟨Tryz.func156, by kernel_rfl, by kernel_rfl⟩
theorem parok156 : ParOk 156 Tryz.f156 := Nat.le_of_ble_eq_true (by kernel_rfl)
theorem fnok157 : FnOk 157 Tryz.f157 := ⟨Tryz.func157, by kernel_rfl, by kernel_rfl⟩
theorem parok157 : ParOk 157 Tryz.f157 := Nat.le_of_ble_eq_true (by kernel_rfl)
theorem fnok158 : FnOk 158 Tryz.f158 := ⟨Tryz.func158, by kernel_rfl, by kernel_rfl⟩
theorem parok158 : ParOk 158 Tryz.f158 := Nat.le_of_ble_eq_true (by kernel_rfl)
theorem fnok159 : FnOk 159 Tryz.f159 := ⟨Tryz.func159, by kernel_rfl, by kernel_rfl⟩
theorem parok159 : ParOk 159 Tryz.f159 := Nat.le_of_ble_eq_true (by kernel_rfl)
theorem fnok160 : FnOk 160 Tryz.f160 := ⟨Tryz.func160, by kernel_rfl, by kernel_rfl⟩
theorem parok160 : ParOk 160 Tryz.f160 := Nat.le_of_ble_eq_true (by kernel_rfl)
theorem fnok167 : FnOk 167 Tryz.f167 := ⟨Tryz.func167, by kernel_rfl, by kernel_rfl⟩
theorem parok167 : ParOk 167 Tryz.f167 := Nat.le_of_ble_eq_true (by kernel_rfl)
theorem fnok168 : FnOk 168 Tryz.f168 := ⟨Tryz.func168, by kernel_rfl, by kernel_rfl⟩
theorem parok168 : ParOk 168 Tryz.f168 := Nat.le_of_ble_eq_true (by kernel_rfl)
theorem fnok169 : FnOk 169 Tryz.f169 := ⟨Tryz.func169, by kernel_rfl, by kernel_rfl⟩
theorem parok169 : ParOk 169 Tryz.f169 := Nat.le_of_ble_eq_true (by kernel_rfl)
theorem fnok170 : FnOk 170 Tryz.f170 := ⟨Tryz.func170, by kernel_rfl, by kernel_rfl⟩
theorem parok170 : ParOk 170 Tryz.f170 := Nat.le_of_ble_eq_true (by kernel_rfl)
theorem fnok171 : FnOk 171 Tryz.f171 := ⟨Tryz.func171, by kernel_rfl, by kernel_rfl⟩
theorem parok171 : ParOk 171 Tryz.f171 := Nat.le_of_ble_eq_true (by kernel_rfl)
theorem fnok172 : FnOk 172 Tryz.f172 := ⟨Tryz.func172, by kernel_rfl, by kernel_rfl⟩
theorem parok172 : ParOk 172 Tryz.f172 := Nat.le_of_ble_eq_true (by kernel_rfl)
theorem fnok182 : FnOk 182 Tryz.f182 := ⟨Tryz.func182, by kernel_rfl, by kernel_rfl⟩
theorem parok182 : ParOk 182 Tryz.f182 := Nat.le_of_ble_eq_true (by kernel_rfl)
theorem fnok191 : FnOk 191 Tryz.f191 := ⟨Tryz.func191, by kernel_rfl, by kernel_rfl⟩
theorem parok191 : ParOk 191 Tryz.f191 := Nat.le_of_ble_eq_true (by kernel_rfl)
theorem fnok193 : FnOk 193 Tryz.f193 := ⟨Tryz.func193, by kernel_rfl, by kernel_rfl⟩
theorem parok193 : ParOk 193 Tryz.f193 := Nat.le_of_ble_eq_true (by kernel_rfl)
theorem fnok194 : FnOk 194 Tryz.f194 := ⟨Tryz.func194, by kernel_rfl, by kernel_rfl⟩
theorem parok194 : ParOk 194 Tryz.f194 := Nat.le_of_ble_eq_true (by kernel_rfl)
theorem fnok195 : FnOk 195 Tryz.f195 := ⟨Tryz.func195, by kernel_rfl, by kernel_rfl⟩
theorem parok195 : ParOk 195 Tryz.f195 := Nat.le_of_ble_eq_true (by kernel_rfl)
theorem fnok198 : FnOk 198 Tryz.f198 := ⟨Tryz.func198, by kernel_rfl, by kernel_rfl⟩
theorem parok198 : ParOk 198 Tryz.f198 := Nat.le_of_ble_eq_true (by kernel_rfl)
theorem fnok199 : FnOk 199 Tryz.f199 := ⟨Tryz.func199, by kernel_rfl, by kernel_rfl⟩
theorem parok199 : ParOk 199 Tryz.f199 := Nat.le_of_ble_eq_true (by kernel_rfl)
theorem fnok202 : FnOk 202 Tryz.f202 := ⟨Tryz.func202, by kernel_rfl, by kernel_rfl⟩
theorem parok202 : ParOk 202 Tryz.f202 := Nat.le_of_ble_eq_true (by kernel_rfl)
theorem fnok206 : FnOk 206 Tryz.f206 := ⟨Tryz.func206, by kernel_rfl, by kernel_rfl⟩
theorem parok206 : ParOk 206 Tryz.f206 := Nat.le_of_ble_eq_true (by kernel_rfl)
theorem fnok207 : FnOk 207 Tryz.f207 := ⟨Tryz.func207, by kernel_rfl, by kernel_rfl⟩
theorem parok207 : ParOk 207 Tryz.f207 := Nat.le_of_ble_eq_true (by kernel_rfl)
theorem fnok208 : FnOk 208 Tryz.f208 := ⟨Tryz.func208, by kernel_rfl, by kernel_rfl⟩
theorem parok208 : ParOk 208 Tryz.f208 := Nat.le_of_ble_eq_true (by kernel_rfl)
theorem fnok209 : FnOk 209 Tryz.f209 := ⟨Tryz.func209, by kernel_rfl, by kernel_rfl⟩
theorem parok209 : ParOk 209 Tryz.f209 := Nat.le_of_ble_eq_true (by kernel_rfl)
theorem fnok211 : FnOk 211 Tryz.f211 := ⟨Tryz.func211, by kernel_rfl, by kernel_rfl⟩
theorem parok211 : ParOk 211 Tryz.f211 := Nat.le_of_ble_eq_true (by kernel_rfl)
theorem fnok226 : FnOk 226 Tryz.f226 := ⟨Tryz.func226, by kernel_rfl, by kernel_rfl⟩
theorem parok226 : ParOk 226 Tryz.f226 := Nat.le_of_ble_eq_true (by kernel_rfl)
theorem fns_ok : ∀ f fn, look fns f = some fn → FnOk f fn := look_all (Q := FnOk) (l := fns) (all_cons fnok34 (all_cons fnok38 (all_cons fnok42 (all_cons fnok68 (all_cons fnok69 (all_cons fnok99 (all_cons fnok136 (all_cons fnok137 (all_cons fnok138 (all_cons fnok139 (all_cons fnok141 (all_cons fnok143 (all_cons fnok144 (all_cons fnok145 (all_cons fnok146 (all_cons fnok147 (all_cons fnok148 (all_cons fnok149 (all_cons fnok150 (all_cons fnok151 (all_cons fnok156 (all_cons fnok157 (all_cons fnok158 (all_cons fnok159 (all_cons fnok160 (all_cons fnok167 (all_cons fnok168 (all_cons fnok169 (all_cons fnok170 (all_cons fnok171 (all_cons fnok172 (all_cons fnok182 (all_cons fnok191 (all_cons fnok193 (all_cons fnok194 (all_cons fnok195 (all_cons fnok198 (all_cons fnok199 (all_cons fnok202 (all_cons fnok206 (all_cons fnok207 (all_cons fnok208 (all_cons fnok209 (all_cons fnok211 (all_cons fnok226 (all_cons fnok102 (all_cons fnok196 (all_cons fnok197 (all_cons fnok201 all_nil)))))))))))))))))))))))))))))))))))))))))))))))))
theorem ctx_ok : CtxOk Tryz.prog CT := ⟨tis_ok, fns_ok, by kernel_rfl, inv_keeps⟩
theorem pars_ok : ∀ i fn, look fns i = some fn → ParOk i fn := look_all (Q := ParOk) (l := fns) (all_cons parok34 (all_cons parok38 (all_cons parok42 (all_cons parok68 (all_cons parok69 (all_cons parok99 (all_cons parok136 (all_cons parok137 (all_cons parok138 (all_cons parok139 (all_cons parok141 (all_cons parok143 (all_cons parok144 (all_cons parok145 (all_cons parok146 (all_cons parok147 (all_cons parok148 (all_cons parok149 (all_cons parok150 (all_cons parok151 (all_cons parok156 (all_cons parok157 (all_cons parok158 (all_cons parok159 (all_cons parok160 (all_cons parok167 (all_cons parok168 (all_cons parok169 (all_cons parok170 (all_cons parok171 (all_cons parok172 (all_cons parok182 (all_cons parok191 (all_cons parok193 (all_cons parok194 (all_cons parok195 (all_cons parok198 (all_cons parok199 (all_cons parok202 (all_cons parok206 (all_cons parok207 (all_cons parok208 (all_cons parok209 (all_cons parok211 (all_cons parok226 (all_cons parok102 (all_cons parok196 (all_cons parok197 (all_cons parok201 all_nil)))))))))))))))))))))))))))))))))))))))))))))))))
theorem sound (hE : ExtOk Tryz.prog CT) : ∀ k, SpecOk Tryz.prog (sem CT k) ∧ StageOk Tryz.prog (sem CT k) := sem_sound ctx_ok hE pars_ok
theorem ext_ok : ExtOk Tryz.prog CT := ext_of (l := extL) rfl (allE_cons (ext_at (trimLeft_ok)) (allE_cons (ext_at (H.short_ok)) (allE_cons (ext_at (H.textDiv_ok inv_keeps (B.trim_ok inv_max))) (allE_cons (ext_at (H.text_ok inv_keeps (B.cut_ok inv_max) (B.trim_ok inv_max))) (allE_cons (ext_at (H.cmp_ok)) (allE_cons (ext_at (lz32_ok)) (allE_cons (ext_at (len_ok)) allE_nil)))))))
theorem spec_ok (k : Nat) : SpecOk Tryz.prog (sem CT k) := (sound ext_ok k).1
end Go.Proofs.YtenapomineinbaaGreatDoor.C

/- Contracts of naturals, told by numbers: what the machine of tier C shows. -/
set_option linter.unusedVariables false
set_option linter.unusedSimpArgs false
namespace Go.Proofs.YtenapomineinbaaGreatDoor.Q
open Go Go.Proofs.YtenapomineinbaaGreatDoor.K Go.Proofs.YtenapomineinbaaGreatDoor.C Go.Proofs.YtenapomineinbaaGreatDoor.P
def ok1 (s : List UInt8) : Bool := Nat.ble s.length 1000000000
def trimQ (s : List UInt8) : Option (List UInt8) := cond (ok1 s) (some (Lib.trimLeftB s 0)) none
def ofQ (n : Int) : Option (List UInt8) := cond (decide (0 ≤ n) && decide (n < 18446744073709551616)) (some (nat n.toNat)) none
def smallQ (s : List UInt8) : Option (Int × Bool) := cond (ok1 s) (some (small (val s))) none
def addQ (y : List UInt8 × List UInt8) : Option (List UInt8) := cond (ok1 y.1 && ok1 y.2) (some (nat (val y.1 + val y.2))) none
def mulQ (y : List UInt8 × List UInt8) : Option (List UInt8) := cond (ok1 y.1 && ok1 y.2) (some (nat (val y.1 * val y.2))) none
def divQ (y : List UInt8 × List UInt8) : Option (List UInt8 × List UInt8 × Int) := cond (ok1 y.1 && ok1 y.2) (some (divmod (val y.1) (val y.2))) none
theorem ok1_le {s : List UInt8} (h : ok1 s = true) : s.length ≤ 1000000000 := Nat.le_of_ble_eq_true h
theorem ok2_le {a b : List UInt8} (h : (ok1 a && ok1 b) = true) : a.length ≤ 1000000000 ∧ b.length ≤ 1000000000 := by
  rw [Bool.and_eq_true] at h
  exact ⟨ok1_le h.1, ok1_le h.2⟩
theorem call_of {i : Nat} (hf : (C.CT.fn (C.CT.fid i)).isSome = true) {g : den (tyL (C.CT.pts i)) → Option (den (tyL (C.CT.rts i)))} (hg : ∀ y r, g y = some r → (top C.CT).callF i y = some r) {inv : World → Prop} (hi : ∀ w, inv w → MaxLen w) :
    CallT Tryz.prog (C.CT.fid i) (C.CT.pts i) (C.CT.rts i) inv g := B.callT_of (C := C.CT) C.spec_ok hf hg hi
variable {inv : World → Prop} (hi : ∀ w, inv w → MaxLen w)
include hi
theorem trim_ok : CallT Tryz.prog 136 [.str] [.str] inv trimQ := call_of (i := 136) (by kernel_rfl) (g := trimQ) (fun y r h => by
  obtain ⟨hc, rfl⟩ := cond_some h
  exact (natTrim y).trans (congrArg some (trimB y).symm)) hi
theorem of_ok : CallT Tryz.prog 137 [.int .u64] [.str] inv ofQ := call_of (i := 137) (by kernel_rfl) (g := ofQ) (fun y r h => by
  obtain ⟨hc, rfl⟩ := cond_some h
  simp only [Bool.and_eq_true, decide_eq_true_eq] at hc
  obtain ⟨n, rfl⟩ := Int.eq_ofNat_of_zero_le hc.1
  exact natOf n (by omega)) hi
theorem small_ok : CallT Tryz.prog 138 [.str] [.int .u64, .bool] inv smallQ := call_of (i := 138) (by kernel_rfl) (g := smallQ) (fun y r h => by
  obtain ⟨hc, rfl⟩ := cond_some h
  have := ok1_le hc
  exact natSmall y (by omega)) hi
theorem add_ok : CallT Tryz.prog 167 [.str, .str] [.str] inv addQ := call_of (i := 167) (by kernel_rfl) (g := addQ) (fun y r h => by
  obtain ⟨hc, rfl⟩ := cond_some h
  obtain ⟨h1, h2⟩ := ok2_le hc
  exact natAdd y.1 y.2 (by omega) (by omega)) hi
theorem mul_ok : CallT Tryz.prog 69 [.str, .str] [.str] inv mulQ := call_of (i := 69) (by kernel_rfl) (g := mulQ) (fun y r h => by
  obtain ⟨hc, rfl⟩ := cond_some h
  obtain ⟨h1, h2⟩ := ok2_le hc
  exact natMul y.1 y.2 (by omega) (by omega)) hi
theorem div_ok : CallT Tryz.prog 68 [.str, .str] [.str, .str, .int .i64] inv divQ := call_of (i := 68) (by kernel_rfl) (g := divQ) (fun y r h => by
  obtain ⟨hc, rfl⟩ := cond_some h
  obtain ⟨h1, h2⟩ := ok2_le hc
  exact divDivMod y.1 y.2 h1 h2) hi
theorem rtrim_ok : CallT Tryz.prog 157 [.str] [.str] inv trimQ := call_of (i := 157) (by kernel_rfl) (g := trimQ) (fun y r h => by
  obtain ⟨hc, rfl⟩ := cond_some h
  have := ok1_le hc
  exact (refTrim y (by omega)).trans (congrArg some (trimB y).symm)) hi
theorem rof_ok : CallT Tryz.prog 171 [.int .u64] [.str] inv ofQ := call_of (i := 171) (by kernel_rfl) (g := ofQ) (fun y r h => by
  obtain ⟨hc, rfl⟩ := cond_some h
  simp only [Bool.and_eq_true, decide_eq_true_eq] at hc
  obtain ⟨n, rfl⟩ := Int.eq_ofNat_of_zero_le hc.1
  exact refOf n (by omega)) hi
theorem rsmall_ok : CallT Tryz.prog 160 [.str] [.int .u64, .bool] inv smallQ := call_of (i := 160) (by kernel_rfl) (g := smallQ) (fun y r h => by
  obtain ⟨hc, rfl⟩ := cond_some h
  have := ok1_le hc
  exact refSmall y (by omega)) hi
theorem radd_ok : CallT Tryz.prog 170 [.str, .str] [.str] inv addQ := call_of (i := 170) (by kernel_rfl) (g := addQ) (fun y r h => by
  obtain ⟨hc, rfl⟩ := cond_some h
  obtain ⟨h1, h2⟩ := ok2_le hc
  exact refAdd y.1 y.2 (by omega) (by omega)) hi
theorem rmul_ok : CallT Tryz.prog 156 [.str, .str] [.str] inv mulQ := call_of (i := 156) (by kernel_rfl) (g := mulQ) (fun y r h => by
  obtain ⟨hc, rfl⟩ := cond_some h
  obtain ⟨h1, h2⟩ := ok2_le hc
  exact refMul y.1 y.2 (by omega) (by omega)) hi
theorem rdiv_ok : CallT Tryz.prog 159 [.str, .str] [.str, .str, .int .i64] inv divQ := call_of (i := 159) (by kernel_rfl) (g := divQ) (fun y r h => by
  obtain ⟨hc, rfl⟩ := cond_some h
  obtain ⟨h1, h2⟩ := ok2_le hc
  exact refDivMod y.1 y.2 h1 h2) hi
/-- Just so many digits, the highest first. -/
def digitsL : Nat → Nat → List UInt8
  | 0, _ => []
  | k + 1, n => digitsL k (n / 10) ++ [UInt8.ofNat (48 + n % 10)]
def digitsQ (y : Int × Int) : Option (List UInt8) := cond (decide (0 ≤ y.1) && (decide (y.1 < 18446744073709551616) && (decide (0 ≤ y.2) && decide (y.2 ≤ 1000)))) (some (digitsL y.2.toNat y.1.toNat)) none
omit hi in
theorem digits1 (k : Nat) (hk : k ≤ 1000) : ∀ (m i n : Nat) (X : List Int), i + m = k → n < 18446744073709551616 → X.length = i → dec_digits_1 (n : Int) (k : Int) (k : Int) (i : Int) (List.replicate m 0 ++ X) = some (digitsL m n ++ bytesOf X)
  | 0, i, n, X, h, hn, hX => by
    rw [dec_digits_1_eq, cF (decide_eq_false (by omega))]; simp [digitsL]
  | m + 1, i, n, X, h, hn, hX => by
    have ew : IntKind.i64.wrap (IntKind.i64.wrap ((k : Int) - 1) - (i : Int)) = ((m : Nat) : Int) := by rw [wrap64 (n := (k : Int) - 1) (by omega) (by omega), wrap64 (by omega) (by omega)]; omega
    have e1 : IntKind.u64.wrap ((n : Int).tdiv 10) = ((n / 10 : Nat) : Int) := by rw [Int.tdiv_eq_ediv_of_nonneg (by omega), wrapU64 (by omega) (by omega)]; omega
    have e2 : IntKind.u8.wrap (IntKind.u64.wrap (48 + (n : Int).tmod 10)) = ((48 + n % 10 : Nat) : Int) := by rw [Int.tmod_eq_emod_of_nonneg (by omega), wrapU64 (by omega) (by omega), wrapU8 (by omega) (by omega)]; omega
    rw [dec_digits_1_eq, cT (decide_eq_true (by omega)), cT (by rfl), ew, cT (ix (by simp; omega)), cT (by rfl), e1, e2, wS (by omega), Int.toNat_natCast, set_pad [], digits1 k hk m (i + 1) (n / 10) _ (by omega) (by omega) (by simp [hX])]
    simp only [digitsL, bytesOf, List.map_cons, List.append_assoc, List.singleton_append, Int.toNat_natCast]
theorem digits_ok : CallT Tryz.prog 139 [.int .u64, .int .i64] [.str] inv digitsQ := call_of (i := 139) (by kernel_rfl) (g := digitsQ) (fun y r h => by
  obtain ⟨hc, rfl⟩ := cond_some h
  simp only [Bool.and_eq_true, decide_eq_true_eq] at hc
  obtain ⟨a, b⟩ := y
  obtain ⟨n, rfl⟩ := Int.eq_ofNat_of_zero_le hc.1
  obtain ⟨k, rfl⟩ := Int.eq_ofNat_of_zero_le hc.2.2.1
  have h1 := hc.2.1
  have h2 := hc.2.2.2
  simp only at h1 h2
  refine (dec_digits_eq _ _).trans ?_
  have := digits1 k (by omega) k 0 n [] (Nat.zero_add _) (by omega) rfl
  simp only [List.append_nil, bytesOf, List.map_nil] at this
  rw [cT (by simp; omega), Int.toNat_natCast]
  exact this) hi
end Go.Proofs.YtenapomineinbaaGreatDoor.Q

/- Greatest common divisors: the program's, the reference's. -/
set_option linter.unusedVariables false
set_option linter.unusedSimpArgs false
namespace Go.Proofs.YtenapomineinbaaGreatDoor.P
open Go Go.Proofs.YtenapomineinbaaGreatDoor.K Go.Proofs.YtenapomineinbaaGreatDoor.C
theorem pow_256 (k : Nat) : 256 ^ k = 2 ^ (8 * k) := by rw [show (256 : Nat) = 2 ^ 8 by decide, ← Nat.pow_mul]
theorem gcd_step (a b : Nat) : Nat.gcd a b = Nat.gcd b (a % b) := by rw [Nat.gcd_comm a b, Nat.gcd_rec, Nat.gcd_comm]
theorem divGcd1 : ∀ (n a b : Nat), b ≤ n → (nat a).length ≤ 1000000000 → (nat b).length ≤ 1000000000 → divide_Gcd_1 (nat a) (nat b) = some (nat (Nat.gcd a b))
  | n, a, b, h, ha, hb => by
    by_cases h0 : b = 0
    · subst h0
      rw [divide_Gcd_1_eq, nat_zero, cF (by rfl), Nat.gcd_zero_right]
    · match n with
      | 0 => omega
      | n + 1 =>
        have hm := Nat.mod_lt a (show 0 < b by omega)
        rw [divide_Gcd_1_eq, cT (by rw [decide_eq_false (fun e => h0 (nat_eq_nil.1 e))]; rfl), divDivMod _ _ ha hb, Option.bind_some, val_nat, val_nat, divmod, if_neg h0]
        simp only
        rw [cF (by rfl), divGcd1 n b (a % b) (by omega) hb (Nat.le_trans (len_mono (Nat.le_of_lt hm)) hb), ← gcd_step]
theorem divGcd (a b : List UInt8) (ha : a.length ≤ 1000000000) (hb : b.length ≤ 1000000000) : divide_Gcd a b = some (nat (Nat.gcd (val a) (val b))) := by
  have la := nat_val_length a
  have lb := nat_val_length b
  rw [divide_Gcd_eq, natTrim, Option.bind_some, natTrim, Option.bind_some, divGcd1 _ _ _ (Nat.le_refl _) (by omega) (by omega)]
theorem refMod (a b : Nat) (ha : (nat a).length ≤ 1000000000) (hb : (nat b).length ≤ 1000000000) (h : b ≠ 0) : abacistref02_Mod (nat a) (nat b) = some (nat (a % b)) := by
  rw [abacistref02_Mod_eq, refDivMod _ _ ha hb, val_nat, val_nat, divmod, if_neg h]; rfl
theorem refGcd0 (s : List UInt8) (i : Int) : abacistref02_Gcd_1 s [] i = some s := by
  rw [abacistref02_Gcd_1_eq]
  have e : (!decide (([] : List UInt8) = [])) = false := rfl
  rw [e]
  cases decide (i < 20000)
  · rw [cond_false, abacistref02_Gcd_2_eq, cond_false]
  · rw [cond_true, abacistref02_Gcd_2_eq, cond_false]
theorem refGcdS (a b i : Nat) (ha : (nat a).length ≤ 1000000000) (hb : (nat b).length ≤ 1000000000) (h : b ≠ 0) (hi : i < 20000) : abacistref02_Gcd_1 (nat a) (nat b) (i : Int) = abacistref02_Gcd_1 (nat b) (nat (a % b)) ((i + 1 : Nat) : Int) := by
  rw [abacistref02_Gcd_1_eq, cT (decide_eq_true (by omega)), decide_eq_false (fun e => h (nat_eq_nil.1 e)), abacistref02_Gcd_2_eq, cT (by rfl), refMod a b ha hb h, Option.bind_some, wS (by omega)]
theorem refGcd1 : ∀ (k a b i : Nat), b < 2 ^ k → i + 2 * k ≤ 19999 → (nat a).length ≤ 1000000000 → (nat b).length ≤ 1000000000 → abacistref02_Gcd_1 (nat a) (nat b) (i : Int) = some (nat (Nat.gcd a b))
  | k, a, b, i, hb, hi, la, lb => by
    by_cases h0 : b = 0
    · subst h0; rw [nat_zero, refGcd0, Nat.gcd_zero_right]
    · match k with
      | 0 => simp at hb; omega
      | k + 1 =>
        have hm := Nat.mod_lt a (show 0 < b by omega)
        have lm := Nat.le_trans (len_mono (Nat.le_of_lt hm)) lb
        rw [refGcdS a b i la lb h0 (by omega), gcd_step]
        by_cases h1 : a % b = 0
        · rw [h1, nat_zero, refGcd0, Nat.gcd_zero_right]
        · have hm2 := Nat.mod_lt b (show 0 < a % b by omega)
          have hd := Nat.div_add_mod b (a % b)
          have hp : 0 < b / (a % b) := Nat.div_pos (Nat.le_of_lt hm) (by omega)
          have hq : a % b * 1 ≤ a % b * (b / (a % b)) := Nat.mul_le_mul_left _ hp
          rw [refGcdS b (a % b) (i + 1) lb lm h1 (by omega), gcd_step]
          exact refGcd1 k (a % b) (b % (a % b)) (i + 1 + 1) (by rw [Nat.pow_succ] at hb; omega) (by omega) lm (Nat.le_trans (len_mono (Nat.le_of_lt hm2)) lm)
theorem refGcd (a b : List UInt8) (ha : a.length ≤ 1000) (hb : b.length ≤ 1000) : abacistref02_Gcd a b = some (nat (Nat.gcd (val a) (val b))) := by
  have la := nat_val_length a
  have lb := nat_val_length b
  have hv := val_lt b
  rw [pow_256] at hv
  have := refGcd1 (8 * b.length) (val a) (val b) 0 hv (by omega) (by omega) (by omega)
  rw [abacistref02_Gcd_eq, refTrim _ (by omega), Option.bind_some, refTrim _ (by omega), Option.bind_some]
  exact this
end Go.Proofs.YtenapomineinbaaGreatDoor.P

/- Powers: the program's, the reference's. -/
set_option linter.unusedVariables false
set_option linter.unusedSimpArgs false
namespace Go.Proofs.YtenapomineinbaaGreatDoor.P
open Go Go.Proofs.YtenapomineinbaaGreatDoor.K Go.Proofs.YtenapomineinbaaGreatDoor.C
def powV (A n : Nat) : List UInt8 × Int := if (nat (A ^ n)).length > 1024 then ([], 9) else (nat (A ^ n), 0)
def powR (A : Nat) (n : Int) : List UInt8 × Int := if n < 0 then ([], 2) else if n = 0 then ([1], 0) else if A = 0 ∨ A = 1 then (nat A, 0) else powV A n.toNat
theorem nat_one : nat 1 = [1] := rfl
theorem neg_or (n : Int) : n < 0 ∨ ∃ k : Nat, n = (k : Int) := by
  rcases Int.lt_or_le n 0 with h | h
  · exact .inl h
  · exact .inr ⟨n.toNat, by omega⟩
theorem powV_big {A n m : Nat} (hA : 0 < A) (h : m ≤ n) (hl : (nat (A ^ m)).length > 1024) : powV A n = ([], 9) := by
  have := len_mono (Nat.pow_le_pow_right hA h)
  rw [powV, if_pos (by omega)]
theorem bit_at (n j : Nat) (hn : n ≤ 9000) (hj : j < 63) : bitop .and .i64 ((n : Int).fdiv (2 ^ min (j : Int).toNat IntKind.i64.bits)) 1 = ((n / 2 ^ j % 2 : Nat) : Int) := by
  have hp : (2 : Int) ^ min (j : Int).toNat IntKind.i64.bits = ((2 ^ j : Nat) : Int) := by
    rw [Int.toNat_natCast, show IntKind.i64.bits = 64 from rfl, Nat.min_eq_left (by omega)]; simp
  have hq : n / 2 ^ j ≤ n := Nat.div_le_self _ _
  have hpos : 0 < 2 ^ j := Nat.two_pow_pos j
  rw [hp, fd (by omega), ← Int.natCast_ediv]
  generalize n / 2 ^ j = q at hq
  have := bits_mask .i64 63 (by decide) wraps_i64 1 (by decide) (q : Int) (by omega) (by omega)
  exact this.trans (by omega)
theorem half_at (n j : Nat) : n / 2 ^ j = 2 * (n / 2 ^ (j + 1)) + n / 2 ^ j % 2 := by
  rw [Nat.pow_succ, ← Nat.div_div_eq_div_mul]
  omega
theorem divPow2 (A n : Nat) (hA : 0 < A) (hn : n ≤ 9000) (lA : (nat A).length ≤ 1024) : ∀ (j : Nat), j ≤ 60 → (nat (A ^ (n / 2 ^ j))).length ≤ 1024 → divide_Pow_2 (nat A) (n : Int) ((j : Int) - 1) (nat (A ^ (n / 2 ^ j))) = some (powV A n)
  | 0, hj, hl => by
    rw [divide_Pow_2_eq, cF (decide_eq_false (by omega)), powV]
    simp only [Nat.pow_zero, Nat.div_one] at hl ⊢
    rw [if_neg (by omega)]
  | j + 1, hj, hl => by
    have hh := half_at n j
    have hle : n / 2 ^ j ≤ n := Nat.div_le_self _ _
    have sq : A ^ (n / 2 ^ (j + 1)) * A ^ (n / 2 ^ (j + 1)) = A ^ (2 * (n / 2 ^ (j + 1))) := by rw [← Nat.pow_add]; congr 1; omega
    have over : ∀ (p : List UInt8), divide_Pow_4 (nat A) (n : Int) (j : Int) true p = some ([], 9) := fun p => by rw [divide_Pow_4_eq, cond_true]
    have next : ∀ (m : Nat), m = n / 2 ^ j → (nat (A ^ m)).length ≤ 1024 → divide_Pow_4 (nat A) (n : Int) (j : Int) false (nat (A ^ m)) = some (powV A n) := fun m hm hlm => by
      subst hm
      rw [divide_Pow_4_eq, cond_false, wrap64 (by omega) (by omega)]
      exact divPow2 A n hA hn lA j (by omega) hlm
    rw [divide_Pow_2_eq, show (((j + 1 : Nat) : Int) - 1) = (j : Int) by omega, cT (decide_eq_true (by omega)), divide_Pow_3_eq, natMul _ _ (by omega) (by omega), Option.bind_some, val_nat, sq, bit_at n j hn (by omega)]
    by_cases hg : (nat (A ^ (2 * (n / 2 ^ (j + 1))))).length ≤ 1024
    · rw [cF (by rw [decide_eq_true (by omega)]; rfl), cT (decide_eq_true (by omega))]
      have hb := Nat.mod_lt (n / 2 ^ j) (show 0 < 2 by decide)
      by_cases hbit : n / 2 ^ j % 2 = 1
      · rw [hbit, cT (by rfl), divide_Pow_5_eq, natMul _ _ (by omega) (by omega), Option.bind_some, cond_true, cond_false, val_nat, val_nat, ← Nat.pow_succ, show (2 * (n / 2 ^ (j + 1))).succ = n / 2 ^ j by omega]
        by_cases hg2 : (nat (A ^ (n / 2 ^ j))).length ≤ 1024
        · rw [decide_eq_true (by omega)]
          exact next _ rfl hg2
        · rw [decide_eq_false (by omega), powV_big hA hle (by omega)]
          exact over _
      · have hbit : n / 2 ^ j % 2 = 0 := by omega
        rw [hbit, cF (by rfl)]
        exact next _ (by omega) hg
    · rw [cT (by rw [decide_eq_false (by omega)]; rfl), over, powV_big hA (by omega) (show (nat (A ^ (2 * (n / 2 ^ (j + 1))))).length > 1024 by omega)]
theorem powV_huge (A n : Nat) (hA : 2 ≤ A) (hn : 8192 < n) : powV A n = ([], 9) := by
  rw [powV, if_pos]
  rcases Nat.lt_or_ge 1024 (nat (A ^ n)).length with h | h
  · exact h
  · exfalso
    have hv := val_lt (nat (A ^ n))
    rw [val_nat, pow_256] at hv
    have h1 : 2 ^ n ≤ A ^ n := Nat.pow_le_pow_left hA n
    have h2 : 2 ^ (8 * (nat (A ^ n)).length) ≤ 2 ^ n := Nat.pow_le_pow_right (by decide) (by omega)
    omega
theorem divPow (a : List UInt8) (ha : a.length ≤ 1024) (n : Int) (hn : n ≤ 9000) : divide_Pow a n = some (powR (val a) n) := by
  have la := nat_val_length a
  have o1 : nat_Of 1 = some [1] := natOf 1 (by decide)
  rw [divide_Pow_eq, natTrim, Option.bind_some, powR]
  rcases neg_or n with h | ⟨k, rfl⟩
  · rw [cT (decide_eq_true h), if_pos h]
  · rw [cF (decide_eq_false (by omega)), if_neg (by omega)]
    by_cases h0 : k = 0
    · subst h0
      rw [cT (by rfl), o1, if_pos (show ((0 : Nat) : Int) = 0 from rfl)]; rfl
    · rw [cF (decide_eq_false (by omega)), if_neg (by omega)]
      by_cases hA : val a = 0
      · rw [cT (decide_eq_true (nat_eq_nil.2 hA)), divide_Pow_1_eq, cond_true, if_pos (.inl hA)]
      · rw [cF (decide_eq_false (fun e => hA (nat_eq_nil.1 e))), o1, Option.bind_some, divide_Pow_1_eq]
        by_cases h1 : val a = 1
        · rw [cT (decide_eq_true (by rw [h1]; rfl)), if_pos (.inr h1)]
        · rw [cF (decide_eq_false (fun e => h1 (by rw [← nat_one] at e; exact nat_inj.1 e))), if_neg (by omega), Int.toNat_natCast]
          by_cases h2 : (k : Int) > 8192
          · rw [cT (decide_eq_true h2), powV_huge _ _ (by omega) (by omega)]
          · have hb := (blen_bounds k).1
            have hl : math_bits_Len (IntKind.u64.wrap (k : Int)) = some ((blen k : Nat) : Int) := by
              refine (top_call ..).trans ?_
              show len64F _ = _
              unfold len64F
              rw [wrapU64 (by omega) (by omega), cT (by simp; omega), Int.toNat_natCast, bitLen_blen k (by omega)]
            have hb32 := blen_le k (by omega)
            have hz : k / 2 ^ blen k = 0 := Nat.div_eq_of_lt hb
            have := divPow2 (val a) k (by omega) (by omega) (by omega) (blen k) (by omega) (by rw [hz, Nat.pow_zero, nat_one]; simp)
            rw [hz, Nat.pow_zero, nat_one] at this
            rw [cF (decide_eq_false h2), o1, Option.bind_some, hl, Option.bind_some, wrap64 (by omega) (by omega)]
            exact this
theorem refPow2 (A n : Nat) (hA : 0 < A) (hn : n ≤ 9000) (lA : (nat A).length ≤ 1024) : ∀ (m i : Nat), i + m = n → (nat (A ^ i)).length ≤ 1024 → abacistref02_Pow_2 (nat A) (n : Int) (nat (A ^ i)) (i : Int) = some (powV A n)
  | 0, i, hi, hl => by
    obtain rfl : i = n := by omega
    rw [abacistref02_Pow_2_eq, cF (decide_eq_false (by omega)), powV, if_neg (by omega)]
  | m + 1, i, hi, hl => by
    rw [abacistref02_Pow_2_eq, cT (decide_eq_true (by omega)), refMul _ _ (by omega) (by omega), Option.bind_some, val_nat, val_nat, ← Nat.pow_succ, wS (by omega)]
    by_cases hg : (nat (A ^ i.succ)).length > 1024
    · rw [cT (decide_eq_true (by omega)), powV_big hA (by omega) hg]
    · rw [cF (decide_eq_false (by omega))]
      exact refPow2 A n hA hn lA m (i + 1) (by omega) (Nat.le_of_not_lt hg)
theorem refPow (a : List UInt8) (ha : a.length ≤ 1024) (n : Int) (hn : n ≤ 9000) : abacistref02_Pow a n = some (powR (val a) n) := by
  have la := nat_val_length a
  rw [abacistref02_Pow_eq, powR]
  rcases neg_or n with h | ⟨k, rfl⟩
  · rw [cT (decide_eq_true h), if_pos h]
  · rw [cF (decide_eq_false (by omega)), if_neg (by omega), refTrim a (by omega), Option.bind_some]
    by_cases h0 : k = 0
    · subst h0
      have z : abacistref02_Pow_1 (nat (val a)) ((0 : Nat) : Int) true = some ([1], 0) := by rw [abacistref02_Pow_1_eq, cond_true, cT (by rfl)]
      rw [if_pos (show ((0 : Nat) : Int) = 0 from rfl), cF (c := decide (((0 : Nat) : Int) > 0)) (by rfl), cT (c := decide (((0 : Nat) : Int) = 0)) (by rfl), z]
      cases decide (nat (val a) = []) <;> rfl
    · rw [if_neg (by omega)]
      by_cases hA : val a = 0
      · rw [cT (decide_eq_true (nat_eq_nil.2 hA)), cT (decide_eq_true (by omega)), abacistref02_Pow_1_eq, cond_true, cF (decide_eq_false (by omega)), if_pos (.inl hA)]
      · rw [cF (decide_eq_false (fun e => hA (nat_eq_nil.1 e))), cF (decide_eq_false (by omega)), abacistref02_Pow_1_eq]
        by_cases h1 : val a = 1
        · rw [cT (decide_eq_true (by rw [h1]; rfl)), cF (decide_eq_false (by omega)), if_pos (.inr h1)]
        · have := refPow2 (val a) k (by omega) (by omega) (by omega) k 0 (Nat.zero_add _) (by rw [Nat.pow_zero, nat_one]; simp)
          rw [Nat.pow_zero, nat_one] at this
          rw [cF (decide_eq_false (fun e => h1 (by rw [← nat_one] at e; exact nat_inj.1 e))), if_neg (by omega), Int.toNat_natCast]
          exact this
theorem refBits1 : ∀ (f c n : Nat), c ≤ f → n + c ≤ 1000000000000 → abacistref01_Bits_1 (n : Int) (c : Int) = some ((n + blen c : Nat) : Int)
  | f, c, n, hf, hn => by
    by_cases h0 : c = 0
    · subst h0; rw [abacistref01_Bits_1_eq, cF (by rfl), blen_zero]; rfl
    · match f with
      | 0 => omega
      | f + 1 =>
        have e : ((c : Int).fdiv (2 ^ min 1 IntKind.u8.bits)) = ((c / 2 : Nat) : Int) := by
          rw [show (2 : Int) ^ min 1 IntKind.u8.bits = 2 from rfl, fd (by omega)]; omega
        rw [abacistref01_Bits_1_eq, cT (decide_eq_true (by omega)), cT (by rfl), e, wS (by omega), refBits1 f (c / 2) (n + 1) (by omega) (by omega), blen_pos h0]
        congr 2; omega
theorem refBits (a : List UInt8) (h : a.length ≤ 1000000000) : abacistref01_Bits a = some ((blen (val a) : Nat) : Int) := by
  have hl := nat_val_length a
  rw [abacistref01_Bits_eq, refTrim a (by omega), Option.bind_some]
  cases hs : nat (val a) with
  | nil => rw [cT (by rfl), nat_eq_nil.1 hs, blen_zero]; rfl
  | cons b l =>
    rw [hs] at hl
    simp only [List.length_cons] at hl
    have hb : b.toNat ≠ 0 := fun e => nat_head _ _ _ hs (UInt8.toNat_inj.1 e)
    have hv : val a = b.toNat * 256 ^ l.length + val l := by rw [← val_nat (val a), hs, val_cons]
    have hlt := val_lt l
    have hd : val a / 2 ^ (8 * l.length) = b.toNat := by
      rw [← pow_256, hv, Nat.add_comm, Nat.add_mul_div_right _ _ (Nat.pow_pos (by decide)), Nat.div_eq_of_lt hlt, Nat.zero_add]
    have hge : 2 ^ (8 * l.length) ≤ val a := by
      rw [← pow_256, hv]
      exact Nat.le_trans (Nat.le_mul_of_pos_left _ (by omega)) (Nat.le_add_right _ _)
    have hsh := blen_shift _ _ hge
    rw [hd] at hsh
    have h256 := b.toNat_lt
    have hr := refBits1 b.toNat b.toNat (8 * l.length) (Nat.le_refl _) (by omega)
    rw [cF (by rfl), cT (by simp), List.getD_cons_zero, List.length_cons, wrap64 (n := ((l.length + 1 : Nat) : Int) - 1) (by omega) (by omega), wrap64 (by omega) (by omega), show 8 * (((l.length + 1 : Nat) : Int) - 1) = ((8 * l.length : Nat) : Int) by omega, hr, hsh]
    congr 2; omega
end Go.Proofs.YtenapomineinbaaGreatDoor.P

/- More contracts of naturals, told by numbers: order, divisors, powers, bits. -/
set_option linter.unusedVariables false
set_option linter.unusedSimpArgs false
namespace Go.Proofs.YtenapomineinbaaGreatDoor.Q
open Go Go.Proofs.YtenapomineinbaaGreatDoor.K Go.Proofs.YtenapomineinbaaGreatDoor.C Go.Proofs.YtenapomineinbaaGreatDoor.P
def ok3 (s : List UInt8) : Bool := Nat.ble s.length 1000
def cmpQ (y : List UInt8 × List UInt8) : Option Int := cond (ok1 y.1 && ok1 y.2) (some (sgnv (val y.1) (val y.2))) none
def gcdQ (y : List UInt8 × List UInt8) : Option (List UInt8) := cond (ok3 y.1 && ok3 y.2) (some (nat (Nat.gcd (val y.1) (val y.2)))) none
def powQ (y : List UInt8 × Int) : Option (List UInt8 × Int) := cond (ok3 y.1 && decide (y.2 ≤ 9000)) (some (powR (val y.1) y.2)) none
def bitsQ (s : List UInt8) : Option Int := cond (ok1 s) (some ((blen (val s) : Nat) : Int)) none
theorem le9 (n : Int) (h : decide (n ≤ 9000) = true) : n ≤ 9000 := of_decide_eq_true h
theorem ok3_le {s : List UInt8} (h : ok3 s = true) : s.length ≤ 1000 := Nat.le_of_ble_eq_true h
theorem ok33_le {a b : List UInt8} (h : (ok3 a && ok3 b) = true) : a.length ≤ 1000 ∧ b.length ≤ 1000 := by
  rw [Bool.and_eq_true] at h
  exact ⟨ok3_le h.1, ok3_le h.2⟩
variable {inv : World → Prop} (hi : ∀ w, inv w → MaxLen w)
include hi
theorem cmp_ok : CallT Tryz.prog 144 [.str, .str] [.int .i64] inv cmpQ := call_of (i := 144) (by kernel_rfl) (g := cmpQ) (fun y r h => by
  obtain ⟨hc, rfl⟩ := cond_some h
  obtain ⟨h1, h2⟩ := ok2_le hc
  exact natCmp y.1 y.2 (by omega) (by omega)) hi
theorem rcmp_ok : CallT Tryz.prog 182 [.str, .str] [.int .i64] inv cmpQ := call_of (i := 182) (by kernel_rfl) (g := cmpQ) (fun y r h => by
  obtain ⟨hc, rfl⟩ := cond_some h
  obtain ⟨h1, h2⟩ := ok2_le hc
  exact refCmp y.1 y.2 (by omega) (by omega)) hi
theorem gcd_ok : CallT Tryz.prog 168 [.str, .str] [.str] inv gcdQ := call_of (i := 168) (by kernel_rfl) (g := gcdQ) (fun y r h => by
  obtain ⟨hc, rfl⟩ := cond_some h
  obtain ⟨h1, h2⟩ := ok33_le hc
  exact divGcd y.1 y.2 (by omega) (by omega)) hi
theorem rgcd_ok : CallT Tryz.prog 169 [.str, .str] [.str] inv gcdQ := call_of (i := 169) (by kernel_rfl) (g := gcdQ) (fun y r h => by
  obtain ⟨hc, rfl⟩ := cond_some h
  obtain ⟨h1, h2⟩ := ok33_le hc
  exact refGcd y.1 y.2 h1 h2) hi
theorem pow_ok : CallT Tryz.prog 151 [.str, .int .i64] [.str, .int .i64] inv powQ := call_of (i := 151) (by kernel_rfl) (g := powQ) (fun y r h => by
  obtain ⟨hc, rfl⟩ := cond_some h
  rw [Bool.and_eq_true] at hc
  have h1 := ok3_le hc.1
  exact divPow y.1 (by omega) y.2 (le9 _ hc.2)) hi
theorem rpow_ok : CallT Tryz.prog 158 [.str, .int .i64] [.str, .int .i64] inv powQ := call_of (i := 158) (by kernel_rfl) (g := powQ) (fun y r h => by
  obtain ⟨hc, rfl⟩ := cond_some h
  rw [Bool.and_eq_true] at hc
  have h1 := ok3_le hc.1
  exact refPow y.1 (by omega) y.2 (le9 _ hc.2)) hi
theorem rbits_ok : CallT Tryz.prog 172 [.str] [.int .i64] inv bitsQ := call_of (i := 172) (by kernel_rfl) (g := bitsQ) (fun y r h => by
  obtain ⟨hc, rfl⟩ := cond_some h
  exact refBits y (ok1_le hc)) hi
end Go.Proofs.YtenapomineinbaaGreatDoor.Q

/- abacist/dec.Text: a natural in decimal digits: the contract, by hand (a strings.Builder). -/
namespace Go.Proofs.YtenapomineinbaaGreatDoor.Q
open Go Go.RowKit Go.Shelf
open Go.Proofs.YtenapomineinbaaGreatDoor.K (Ty den tyL RetT CallT cond_some ret_str denStr DenL DenL_2 DenL_1 DenV DeepC ResL_plain hasOwn oneV MaxLen)
open Go.Proofs.YtenapomineinbaaGreatDoor.P (nat val divmod small nat_val_length len_mono val_nat nat_eq_nil nat_zero)
set_option linter.unusedVariables false
set_option linter.unusedSimpArgs false
theorem writeStr (B b : Nat) (bs : List Value) (s : ByteArray) (w : World) (h : Lib.IsBuilderF 133 5 B b bs w) (hlen : bs.length + s.size ≤ 140737488355328) (hBw : B ≤ w.heap.size) :
    Calls Tryz.prog 140 #[.pointer (some ⟨b, 0, none⟩), .string s] w fun e w' => e = .returned (.tuple #[.int .i64 s.size, .nilIface]) ∧ (Lib.BuilderAtF 133 5 B b (.pointer (some ⟨b, 0, none⟩)) (bs ++ Lib.strCells s) w' ∧ Below B w w' ∧ Lib.OthersKept 5 (some b) w w') :=
  Any.Builder_WriteString_k (P := Tryz.prog) (ρ := Tryz.lays105_ren) { Tryz.lays105 with } Tryz.Builder_Extra_105 B b bs s w h hlen hBw
theorem ret_any {ts : List Ty} {w w' : World} {fz0 : Nat → Prop} {r : den (tyL ts)} {e : Ending} (ho : hasOwn (tyL ts) = false) (h : RetT ts w fz0 r e w') : ∃ (ok : Nat → Prop) (vs : List Value), e = .returned (oneV vs) ∧ Below w.heap.size w w' ∧ DenL w'.heap ok ts r vs := by
  obtain ⟨v, rfl, hb, ow, ok, vs, _, _, _, rfl, hres⟩ := h
  exact ⟨ok, vs, rfl, hb, (ResL_plain ts ho hres).2⟩
theorem denS {hp : Array Obj} {ok : Nat → Prop} {r : List UInt8} {v : Value} (h : DenV hp ok .str r v) : v = .string ⟨r.toArray⟩ := by
  have h : Ty.str ≠ .unit ∧ [v] = [Value.string ⟨r.toArray⟩] := h
  simpa using h.2
theorem denI {hp : Array Obj} {ok : Nat → Prop} {k : IntKind} {r : Int} {v : Value} (h : DenV hp ok (.int k) r v) : v = .int k r := by
  have h : Ty.int k ≠ .unit ∧ [v] = [Value.int k r] := h
  simpa using h.2
theorem denB {hp : Array Obj} {ok : Nat → Prop} {r : Bool} {v : Value} (h : DenV hp ok .bool r v) : v = .bool r := by
  have h : Ty.bool ≠ .unit ∧ [v] = [Value.bool r] := h
  simpa using h.2
theorem denL2 {hp : Array Obj} {ok : Nat → Prop} {t u : Ty} {ts : List Ty} {x : den t} {y : den (tyL (u :: ts))} {v : Value} {vs : List Value} (h : DenV hp ok t x v) (h' : DenL hp ok (u :: ts) y vs) : DenL hp ok (t :: u :: ts) ((x, y) : den t × den (tyL (u :: ts))) (v :: vs) := by
  show ∃ v0 vs0, v :: vs = v0 :: vs0 ∧ DenV hp ok t x v0 ∧ DenL hp ok (u :: ts) y vs0
  exact ⟨v, vs, rfl, h, h'⟩
theorem denS' {hp : Array Obj} {ok : Nat → Prop} (r : List UInt8) : DenV hp ok .str r (.string ⟨r.toArray⟩) := by
  show Ty.str ≠ .unit ∧ [Value.string ⟨r.toArray⟩] = [Value.string ⟨r.toArray⟩]
  exact ⟨by simp, rfl⟩
theorem denI' {hp : Array Obj} {ok : Nat → Prop} (k : IntKind) (r : Int) : DenV hp ok (.int k) r (.int k r) := by
  show Ty.int k ≠ .unit ∧ [Value.int k r] = [Value.int k r]
  exact ⟨by simp, rfl⟩
theorem denN {hp : Array Obj} {ok : Nat → Prop} (k : IntKind) (r : Int) : DenL hp ok [.int k] r [.int k r] := by
  show ∃ v, [Value.int k r] = [v] ∧ DenV hp ok (.int k) r v
  exact ⟨_, rfl, denI' k r⟩
variable {inv : World → Prop}
theorem cTrim (h : CallT Tryz.prog 136 [.str] [.str] inv trimQ) (s : List UInt8) (hs : s.length ≤ 1000000000) (W : World) (hi : inv W) :
    Calls Tryz.prog 136 #[.string ⟨s.toArray⟩] W fun e w' => e = .returned (.string ⟨(nat (val s)).toArray⟩) ∧ Below W.heap.size W w' := by
  have hg : trimQ s = some (nat (val s)) := by unfold trimQ ok1; rw [show Nat.ble s.length 1000000000 = true from Nat.ble_eq_true_of_le hs, cond_true, P.trimB]
  exact (h s _ hg W (fun _ => False) [.string ⟨s.toArray⟩] (fun _ h => h.elim) hi (denStr s)).mono fun e w' hr => ret_str hr
theorem cOf (h : CallT Tryz.prog 137 [.int .u64] [.str] inv ofQ) (W : World) (hi : inv W) :
    Calls Tryz.prog 137 #[.int .u64 1000000000] W fun e w' => e = .returned (.string ⟨(nat 1000000000).toArray⟩) ∧ Below W.heap.size W w' :=
  (h (1000000000 : Int) (nat 1000000000) rfl W (fun _ => False) [.int .u64 1000000000] (fun _ h => h.elim) hi ⟨_, rfl, denI' .u64 1000000000⟩).mono fun e w' hr => ret_str hr
theorem cDiv (h : CallT Tryz.prog 68 [.str, .str] [.str, .str, .int .i64] inv divQ) (m : Nat) (hm : (nat m).length ≤ 1000000000) (W : World) (hi : inv W) :
    Calls Tryz.prog 68 #[.string ⟨(nat m).toArray⟩, .string ⟨(nat 1000000000).toArray⟩] W fun e w' =>
      e = .returned (.tuple #[.string ⟨(nat (m / 1000000000)).toArray⟩, .string ⟨(nat (m % 1000000000)).toArray⟩, .int .i64 0]) ∧ Below W.heap.size W w' := by
  have hl : (nat 1000000000).length ≤ 1000000000 := by decide
  have hg : divQ (nat m, nat 1000000000) = some (nat (m / 1000000000), nat (m % 1000000000), 0) := by
    unfold divQ ok1
    simp only
    rw [show Nat.ble (nat m).length 1000000000 = true from Nat.ble_eq_true_of_le hm, show Nat.ble (nat 1000000000).length 1000000000 = true from Nat.ble_eq_true_of_le hl, Bool.and_self, cond_true, val_nat, val_nat, divmod, if_neg (by decide)]
  refine (h (nat m, nat 1000000000) _ hg W (fun _ => False) [.string ⟨(nat m).toArray⟩, .string ⟨(nat 1000000000).toArray⟩] (fun _ h => h.elim) hi (denL2 (denS' _) (denStr _))).mono fun e w' hr => ?_
  obtain ⟨ok, vs, rfl, hb, hd⟩ := ret_any rfl hr
  obtain ⟨v1, vs1, rfl, h1, hd⟩ := hd
  obtain ⟨v2, vs2, rfl, h2, hd⟩ := hd
  obtain ⟨v3, rfl, h3⟩ := hd
  obtain rfl := denS h1
  obtain rfl := denS h2
  obtain rfl := denI h3
  exact ⟨rfl, hb⟩
theorem cSmall (h : CallT Tryz.prog 138 [.str] [.int .u64, .bool] inv smallQ) (r : Nat) (hr : r < 1000000000) (W : World) (hi : inv W) :
    Calls Tryz.prog 138 #[.string ⟨(nat r).toArray⟩] W fun e w' => e = .returned (.tuple #[.int .u64 (r : Int), .bool true]) ∧ Below W.heap.size W w' := by
  have hl : (nat r).length ≤ 4 := P.nat_length_le (by omega)
  have hg : smallQ (nat r) = some ((r : Int), true) := by
    unfold smallQ ok1
    rw [show Nat.ble (nat r).length 1000000000 = true from Nat.ble_eq_true_of_le (by omega), cond_true, val_nat, small, if_pos (by omega)]
  refine (h (nat r) _ hg W (fun _ => False) [.string ⟨(nat r).toArray⟩] (fun _ h => h.elim) hi (denStr _)).mono fun e w' hr => ?_
  obtain ⟨ok, vs, rfl, hb, hd⟩ := ret_any rfl hr
  obtain ⟨v1, vs1, rfl, h1, hd⟩ := hd
  obtain ⟨v2, rfl, h2⟩ := hd
  obtain rfl := denI h1
  obtain rfl := denB h2
  exact ⟨rfl, hb⟩
theorem cDig (h : CallT Tryz.prog 139 [.int .u64, .int .i64] [.str] inv digitsQ) (r : Nat) (hr : r < 1000000000) (W : World) (hi : inv W) :
    Calls Tryz.prog 139 #[.int .u64 (r : Int), .int .i64 9] W fun e w' => e = .returned (.string ⟨(digitsL 9 r).toArray⟩) ∧ Below W.heap.size W w' := by
  have hg : digitsQ (((r : Int), (9 : Int)) : Int × Int) = some (digitsL 9 r) := by
    unfold digitsQ
    rw [show (decide ((0 : Int) ≤ (((r : Int), (9 : Int)) : Int × Int).1) && (decide ((((r : Int), (9 : Int)) : Int × Int).1 < 18446744073709551616) && (decide ((0 : Int) ≤ (((r : Int), (9 : Int)) : Int × Int).2) && decide ((((r : Int), (9 : Int)) : Int × Int).2 ≤ 1000)))) = true by simp; omega, cond_true]; rfl
  exact (h (((r : Int), (9 : Int)) : Int × Int) _ hg W (fun _ => False) [.int .u64 (r : Int), .int .i64 9] (fun _ h => h.elim) hi (denL2 (u := .int .i64) (ts := []) (y := (9 : Int)) (denI' .u64 (r : Int)) (denN .i64 9))).mono fun e w' hr => ret_str hr
theorem cTL (l : List UInt8) (W : World) : Calls Tryz.prog 141 #[.string ⟨l.toArray⟩, .string ⟨#[48]⟩] W fun e w' => e = .returned (.string ⟨(Lib.trimLeftB l 48).toArray⟩) ∧ Below W.heap.size W w' :=
  (K.trimLeft_ok (inv := fun _ => True) (l, [48]) (Lib.trimLeftB l 48) rfl W (fun _ => False) [.string ⟨l.toArray⟩, .string ⟨#[48]⟩] (fun _ h => h.elim) trivial (denL2 (denS' l) (denStr [48]))).mono fun e w' hr => ret_str hr
/-- The parts of nine digits, the lowest first. -/
def decPartsF : Nat → Nat → List (List UInt8)
  | 0, _ => []
  | f + 1, n => if n = 0 then [] else digitsL 9 (n % 1000000000) :: decPartsF f (n / 1000000000)
def decParts (n : Nat) : List (List UInt8) := decPartsF n n
theorem decPartsF_eq : ∀ (f g n : Nat), n ≤ f → n ≤ g → decPartsF f n = decPartsF g n
  | 0, g, n, h1, h2 => by
    obtain rfl : n = 0 := by omega
    cases g <;> simp [decPartsF]
  | f + 1, 0, n, h1, h2 => by
    obtain rfl : n = 0 := by omega
    simp [decPartsF]
  | f + 1, g + 1, n, h1, h2 => by
    by_cases h : n = 0
    · subst h; simp [decPartsF]
    · rw [decPartsF, decPartsF, if_neg h, if_neg h, decPartsF_eq f g (n / 1000000000) (by omega) (by omega)]
theorem decParts_zero : decParts 0 = [] := rfl
theorem decParts_pos {n : Nat} (h : n ≠ 0) : decParts n = digitsL 9 (n % 1000000000) :: decParts (n / 1000000000) := by
  obtain ⟨m, rfl⟩ : ∃ m, n = m + 1 := ⟨n - 1, by omega⟩
  conv => lhs; unfold decParts
  rw [decPartsF, if_neg h, decPartsF_eq m ((m + 1) / 1000000000) _ (by omega) (Nat.le_refl _)]; rfl
def decTrim (l : List UInt8) : List UInt8 := cond (decide (Lib.trimLeftB l 48 = [])) [48] (Lib.trimLeftB l 48)
def decText (n : Nat) : List UInt8 := decTrim ((decParts n).reverse.flatten)
theorem len_div (n : Nat) (h : n ≠ 0) : (nat (n / 1000000000)).length + 1 ≤ (nat n).length := by
  have h1 : (nat n).length = (nat (n / 256)).length + 1 := by rw [P.nat_length, P.nat_length, P.digs_pos h]; simp
  have := len_mono (show n / 1000000000 ≤ n / 256 by omega)
  omega
theorem decParts_len (n : Nat) : (decParts n).length ≤ (nat n).length := by
  induction n using Nat.strongRecOn with
  | _ n ih =>
    by_cases h : n = 0
    · subst h; rw [decParts_zero]; exact Nat.zero_le _
    · have := ih (n / 1000000000) (by omega)
      have := len_div n h
      rw [decParts_pos h, List.length_cons]; omega
theorem own_keep {w W : World} {n : Nat} {e : TypeId} {size : Nat} {v : Value} {k : Nat} {xs : List Value} (h : w.ownsRow n e size v k xs) (hb : Below w.heap.size w W) : W.ownsRow n e size v k xs := by
  refine ⟨h.1, ?_⟩
  rcases h.2 with h | ⟨g, cap, cur, h1, h2, h3, h4⟩
  · exact .inl h
  · exact .inr ⟨g, cap, cur, h1, h2, (hb.block g (Array.getElem?_eq_some_iff.1 h3).1).trans h3, h4⟩
theorem own_cells {w : World} {n : Nat} {ao : Option Addr} {cv : Nat} {ps : List (List UInt8)} (h : w.ownsRow n 9 1 (.slice ao ps.length cv) ps.length (ps.map fun p => Value.string ⟨p.toArray⟩)) (hp : 0 < ps.length) :
    ∃ g, ao = some ⟨g, 0, none⟩ ∧ ∀ i, i < ps.length → w.cell? ⟨g, i, none⟩ = some (.string ⟨(ps.getD i []).toArray⟩) := by
  rcases h.2 with ⟨_, h⟩ | ⟨g, cap, cur, h1, h2, h3, h4, h5, h6, h7⟩
  · omega
  · injection h1 with h1 _ h8
    refine ⟨g, h1, fun i hi => ?_⟩
    have e : (ps.map fun p => Value.string ⟨p.toArray⟩)[i]? = some (.string ⟨(ps.getD i []).toArray⟩) := by
      rw [List.getElem?_map, List.getElem?_eq_getElem hi, List.getD_eq_getElem?_getD, List.getElem?_eq_getElem hi]; rfl
    rw [← h7, List.getElem?_take, if_pos (by omega)] at e
    simp only [World.cell?, h3]
    simpa using e
theorem own_lt {w : World} {n : Nat} {e : TypeId} {size : Nat} {g : Nat} {k c : Nat} {xs : List Value} (h : w.ownsRow n e size (.slice (some ⟨g, 0, none⟩) k c) k xs) : g < w.heap.size := (h.lt g (by simp [Value.ownBlock])).2
theorem digitsL_length : ∀ k n, (digitsL k n).length = k
  | 0, _ => rfl
  | k + 1, n => by rw [digitsL, List.length_append, digitsL_length k]; rfl
theorem decParts_nine (n : Nat) : ∀ p ∈ decParts n, p.length = 9 := by
  induction n using Nat.strongRecOn with
  | _ n ih =>
    by_cases h : n = 0
    · subst h; rw [decParts_zero]; intro p hp; cases hp
    · rw [decParts_pos h]
      intro p hp
      rcases List.mem_cons.1 hp with rfl | hp
      · exact digitsL_length _ _
      · exact ih _ (by omega) p hp
theorem flat9 (l : List (List UInt8)) (h : ∀ p ∈ l, p.length = 9) : l.flatten.length = 9 * l.length := by
  induction l with
  | nil => rfl
  | cons a l ih =>
    have h1 := h a (List.mem_cons_self ..)
    have h2 := ih fun p hp => h p (List.mem_cons_of_mem _ hp)
    rw [List.flatten_cons, List.length_append, h1, h2, List.length_cons]; omega
theorem take_rev (ps : List (List UInt8)) (k : Nat) (h : k < ps.length) : (ps.reverse.take (k + 1)).flatten = (ps.reverse.take k).flatten ++ ps.getD (ps.length - 1 - k) [] := by
  rw [List.take_add_one, List.getElem?_reverse h, List.getElem?_eq_getElem (by omega), List.getD_eq_getElem?_getD, List.getElem?_eq_getElem (by omega)]
  simp
def HidP (p : Prop) : Prop := p
def strLen : Value → Nat
  | .string s => s.size
  | _ => 0
set_option maxRecDepth 1000000 in
set_option maxHeartbeats 4000000 in
theorem main (hk : ∀ w w', inv w → Below w.heap.size w w' → inv w') (hTrim : CallT Tryz.prog 136 [.str] [.str] inv trimQ) (hOf : CallT Tryz.prog 137 [.int .u64] [.str] inv ofQ)
    (hDiv : CallT Tryz.prog 68 [.str, .str] [.str, .str, .int .i64] inv divQ) (hSmall : CallT Tryz.prog 138 [.str] [.int .u64, .bool] inv smallQ) (hDig : CallT Tryz.prog 139 [.int .u64, .int .i64] [.str] inv digitsQ)
    (s : List UInt8) (hs : s.length ≤ 1000000000) (w : World) (hw : inv w) :
    Calls Tryz.prog 67 #[.string ⟨s.toArray⟩] w fun e w' => e = .returned (.string ⟨(decText (val s)).toArray⟩) ∧ Below w.heap.size w w' := by
  have hkk : ∀ W, Below w.heap.size w W → inv W := fun W hb => hk w W hw hb
  have l0 := nat_val_length s
  have hi9 : (Tryz.prog.info? 9).map (fun i => (i.zero, i.size, i.bytes)) = some (some (.string ByteArray.empty), 1, 16) := by kernel_rfl
  obtain ⟨i0, hi, hz0, hz1, hz2⟩ := info_parts hi9
  clear hi9
  go_enter Tryz.func67, Tryz.ntmps67
  go_wp2_with (go_at_call 136; refine (cTrim hTrim s hs _ hw).mono ?_; rintro e w1 ⟨rfl, hb1⟩)
  go_loopw [0, 3] (fun a v wr => ∃ (m : Nat) (ps : List (List UInt8)) (ao : Option Addr) (cv : Nat), a = .string ⟨(nat m).toArray⟩ ∧ m ≤ val s ∧ v = .slice ao ps.length cv ∧ wr.ownsRow w.heap.size 9 1 v ps.length (ps.map fun p => Value.string ⟨p.toArray⟩) ∧ Below w.heap.size w wr ∧ ps ++ decParts m = decParts (val s)) (fun a _ _ => strLen a)
  case atStart =>
    refine ⟨val s, [], none, 0, rfl, Nat.le_refl _, rfl, World.ownsRow_nil _ _ _ _, hb1, rfl⟩
  case round =>
    obtain ⟨m, ps, ao, cv, rfl, hm, rfl, hown, hbw, hps⟩ := hrel
    have lps : ps.length ≤ 1000000000 := by
      have h1 := congrArg List.length hps
      have h2 := decParts_len (val s)
      rw [List.length_append] at h1
      omega
    by_cases h0 : m = 0
    · subst h0
      go_wp2
      have hwsz := hbw.size
      have hpe0 : ps = decParts (val s) := by simpa [decParts_zero] using hps
      have h9 : ∀ p ∈ ps, p.length = 9 := by rw [hpe0]; exact decParts_nine _
      have hpe : HidP (ps = decParts (val s)) := hpe0
      clear hpe0 hps
      go_loopw [38] (fun i wr2 => ∃ k : Nat, k ≤ ps.length ∧ i = .int .i64 k ∧ Lib.IsBuilderF 133 5 wr.heap.size wr.heap.size (Lib.byteCells (ps.reverse.take k).flatten) wr2 ∧ Below wr.heap.size wr wr2) (fun i _ => ps.length - (intOf i).toNat)
      case atStart =>
        exact ⟨0, Nat.zero_le _, rfl, Lib.IsBuilderF.of (Lib.fresh_isBuilder 133 5 wr), (Below.refl _ wr).alloc (Nat.le_refl _) _⟩
      case round =>
        obtain ⟨k, hk, rfl, hbd, hbr⟩ := hrel
        by_cases hkl : k < ps.length
        · obtain ⟨g, rfl, hcell⟩ := own_cells hown (by omega)
          have hidx : wrap64 (wrap64 ((ps.length : Int) - 1) - (k : Int)) = ((ps.length - 1 - k : Nat) : Int) := by unfold wrap64; omega
          have hc1 := hcell (ps.length - 1 - k) (by omega)
          have hc2 := (hbr.cell (p := ⟨g, ps.length - 1 - k, none⟩) (own_lt hown)).trans hc1
          have hfl : (ps.reverse.take k).flatten.length = 9 * k := by
            rw [flat9 _ (fun p hp => h9 p (by simpa using List.mem_of_mem_take hp)), List.length_take, List.length_reverse, Nat.min_eq_left hk]
          have hp9 : (ps.getD (ps.length - 1 - k) []).length = 9 := by
            rw [List.getD_eq_getElem?_getD, List.getElem?_eq_getElem (by omega)]
            exact h9 _ (List.getElem_mem _)
          have hsz2 := hbr.size
          go_wp2_with (go_at_call 140; refine (writeStr _ _ _ ⟨(ps.getD (ps.length - 1 - k) []).toArray⟩ _ hbd (by rw [Lib.byteCells_length, hfl]; show 9 * k + (ps.getD (ps.length - 1 - k) []).toArray.size ≤ _; rw [List.size_toArray]; omega) hsz2).mono ?_; rintro e W1 ⟨rfl, h1, b1, k1⟩)
          go_roundw
          case rel =>
            have R : k + 1 ≤ ps.length ∧ Value.int .i64 ((k : Int) + 1) = .int .i64 ((k + 1 : Nat) : Int) ∧ Lib.IsBuilderF 133 5 _ _ (Lib.byteCells (ps.reverse.take (k + 1)).flatten) W1 ∧ Below _ _ W1 :=
              ⟨by omega, by go_num, by rw [take_rev ps k hkl, Lib.byteCells_append]; exact Or.inr h1, hbr.trans b1⟩
            first
              | exact ⟨k + 1, R⟩
              | ((repeat apply Exists.intro); exact ⟨⟨k + 1, R⟩, rfl⟩)
          case measure => simp [intOf]; omega
        · have hsz2 := hbr.size
          have hkp : k = ps.length := by omega
          subst hkp
          rw [show ps.reverse.take ps.length = ps.reverse by rw [← List.length_reverse, List.take_length]] at hbd
          go_wp2_with (first
            | (go_at_call 142; refine (Tryz.Builder_String_any_k _ _ _ _ hbd hsz2).mono ?_; rintro e W1 ⟨rfl, h1, b1, k1⟩)
            | (go_at_call 141; refine (cTL _ _).mono ?_; rintro e W2 ⟨rfl, b2⟩))
          all_goals have hbl := (hbw.trans ((hbr.trans b1).mono hwsz)).trans (b2.mono (hbw.trans ((hbr.trans b1).mono hwsz)).size)
          all_goals have hpq : ps = decParts (val s) := hpe
          · have hb : (Lib.trimLeftB ps.reverse.flatten 48).isEmpty = true := by assumption
            go_ret
            refine ⟨?_, hbl⟩
            rw [decText, ← hpq, decTrim, List.isEmpty_iff.1 hb]; rfl
          · have hb : (Lib.trimLeftB ps.reverse.flatten 48).isEmpty = false := by assumption
            go_ret
            refine ⟨?_, hbl⟩
            rw [decText, ← hpq, decTrim, decide_eq_false (by intro e; rw [e] at hb; cases hb)]; rfl
    · have hne : ¬ ((⟨(nat m).toArray⟩ : ByteArray) = ⟨#[]⟩) := fun e => h0 (nat_eq_nil.1 (by simpa using congrArg (fun b : ByteArray => b.data.toList) e))
      have he : (nat m).isEmpty = false := by
        cases h : nat m with
        | nil => exact absurd (nat_eq_nil.1 h) h0
        | cons => rfl
      have lm : (nat m).length ≤ 1000000000 := Nat.le_trans (len_mono hm) (by omega)
      have hr9 := Nat.mod_lt m (show 0 < 1000000000 by decide)
      go_wp2_with (first
        | (go_at_call 137; refine (cOf hOf _ (hkk _ hbw)).mono ?_; rintro e W1 ⟨rfl, b1⟩; have hbw1 := hbw.trans (b1.mono hbw.size))
        | (go_at_call 68; refine (cDiv hDiv m lm _ (hkk _ hbw1)).mono ?_; rintro e W2 ⟨rfl, b2⟩; have hbw2 := hbw1.trans (b2.mono hbw1.size))
        | (go_at_call 138; refine (cSmall hSmall _ hr9 _ (hkk _ hbw2)).mono ?_; rintro e W3 ⟨rfl, b3⟩; have hbw3 := hbw2.trans (b3.mono hbw2.size))
        | (go_at_call 139; refine (cDig hDig _ hr9 _ (hkk _ hbw3)).mono ?_; rintro e W4 ⟨rfl, b4⟩; have hbw4 := hbw3.trans (b4.mono hbw3.size); have hall := ((b1.trans (b2.mono b1.size)).trans (b3.mono (b1.trans (b2.mono b1.size)).size)).trans (b4.mono ((b1.trans (b2.mono b1.size)).trans (b3.mono (b1.trans (b2.mono b1.size)).size)).size); have hs4 := hbw4.size)
        | (at_builtin; refine wpList_append_own _ rfl _ _ 109 rfl w.heap.size 9 i0 (.string ByteArray.empty) 1 16 Tryz.underlying109 hi hz0 hz1 hz2 rfl (by decide) _ _ _ rfl ((own_keep hown hall).alloc _) ⟨W4.heap.size, 0, none⟩ 1 1 [.string ⟨(digitsL 9 (m % 1000000000)).toArray⟩] rfl rfl (cell_one_new _ _ _) (fun x hx => by simp at hx; subst hx; rfl) (by unfold maxLen; omega) (by omega) (by simp; omega) ?_; intro v' w5 hown' hgrow5 hnil5))
      obtain ⟨g3, cap3, rfl⟩ := ownsRow_succ hown'
      have hsz1 := len_div m h0
      exact ⟨⟨m / 1000000000, ps ++ [digitsL 9 (m % 1000000000)], some ⟨g3, 0, none⟩, cap3, rfl, by omega, by simp, by rw [List.map_append, List.length_append]; exact hown', (hbw4.alloc hs4 _).grown hgrow5 (by simp; omega) (fun q hq => (hown.lt q hq).1), by rw [List.append_assoc, ← hps, decParts_pos h0]; rfl⟩, by
        show (nat (m / 1000000000)).toArray.size < (nat m).toArray.size
        simp; omega⟩
def decQ (s : List UInt8) : Option (List UInt8) := cond (ok1 s) (some (decText (val s))) none
theorem dec_ok (hk : ∀ w w', inv w → Below w.heap.size w w' → inv w') (hi : ∀ w, inv w → MaxLen w) : CallT Tryz.prog 67 [.str] [.str] inv decQ := by
  intro y r h w fz0 vs hfz hinv hd
  obtain ⟨hc, rfl⟩ := cond_some h
  obtain rfl := K.unStr hd
  refine (main hk (trim_ok hi) (of_ok hi) (div_ok hi) (small_ok hi) (digits_ok hi) y (ok1_le hc) w hinv).mono fun e w' ⟨he, hb⟩ => ?_
  subst he
  exact K.retT_plain (ts := [.str]) [_] hb rfl (denStr _)
end Go.Proofs.YtenapomineinbaaGreatDoor.Q

/- Texts as values, told by the machine of tier C: for contracts by hand. -/
set_option linter.unusedVariables false
set_option linter.unusedSimpArgs false
namespace Go.Proofs.YtenapomineinbaaGreatDoor.Q
open Go Go.Proofs.YtenapomineinbaaGreatDoor.K Go.Proofs.YtenapomineinbaaGreatDoor.C
open Go.Proofs.YtenapomineinbaaGreatDoor.P (wS)
def plc (b : UInt8) : Bool := decide (32 ≤ b.toNat) && decide (b.toNat ≤ 126)
def plainQ (s : List UInt8) : Bool := s.all plc && decide (s.length ≤ 200)
theorem drop_all {p : UInt8 → Bool} {s : List UInt8} {i : Nat} (h : i < s.length) : (s.drop i).all p = (p (s.getD i 0) && (s.drop (i + 1)).all p) := by
  rw [List.drop_eq_getElem_cons h, List.all_cons, List.getD_eq_getElem?_getD, List.getElem?_eq_getElem h]; rfl
theorem plain1 (s : List UInt8) (hs : s.length ≤ 9223372036854775807) : ∀ (m i : Nat), i + m = s.length → C.value_plain_1 s (s.map fun b => (b.toNat : Int)) ((s.map fun b => (b.toNat : Int)).length : Int) (i : Int) = some ((s.drop i).all plc && decide (s.length ≤ 200))
  | 0, i, h => by
    rw [C.value_plain_1_eq, cF (decide_eq_false (by rw [List.length_map]; omega)), List.drop_of_length_le (by omega)]
    exact congrArg some (decide_eq_decide.2 (by omega))
  | m + 1, i, h => by
    have hi : i < s.length := by omega
    have hg : (s.map fun b => (b.toNat : Int)).getD (i : Int).toNat 0 = ((s.getD i 0).toNat : Int) := by simp [List.getD, hi]
    have next : C.value_plain_2 s (s.map fun b => (b.toNat : Int)) ((s.map fun b => (b.toNat : Int)).length : Int) (i : Int) false = some ((s.drop (i + 1)).all plc && decide (s.length ≤ 200)) := by
      rw [C.value_plain_2_eq, cond_false, wS (by omega)]; exact plain1 s hs m (i + 1) (by omega)
    have stop : C.value_plain_2 s (s.map fun b => (b.toNat : Int)) ((s.map fun b => (b.toNat : Int)).length : Int) (i : Int) true = some false := by rw [C.value_plain_2_eq, cond_true]
    rw [C.value_plain_1_eq, cT (decide_eq_true (by rw [List.length_map]; omega)), cT (by rw [List.length_map]; exact ix hi), hg, drop_all hi]
    generalize s.getD i 0 = c
    by_cases h1 : c.toNat < 32
    · rw [cT (decide_eq_true (by omega)), stop, show plc c = false by unfold plc; simp; omega]; rfl
    · rw [cF (decide_eq_false (by omega))]
      by_cases h2 : c.toNat > 126
      · rw [decide_eq_true (show (c.toNat : Int) > 126 by omega), stop, show plc c = false by unfold plc; simp; omega]; rfl
      · rw [decide_eq_false (show ¬ (c.toNat : Int) > 126 by omega), next, show plc c = true by unfold plc; simp; omega]; rfl
theorem plain0 (s : List UInt8) (hs : s.length ≤ 9223372036854775807) : C.value_plain s = some (plainQ s) := (C.value_plain_eq s).trans (plain1 s hs s.length 0 (Nat.zero_add _))
abbrev VTy : Ty := .pair (.int .i64) (.pair (.pair .bool (.pair .str .str)) (.pair .str (.pair .bool (.int .i64))))
def vtext (s : List UInt8) : den VTy := cond (plainQ s) ((2 : Int), (false, ([] : List UInt8), ([] : List UInt8)), s, false, (0 : Int)) ((4 : Int), (false, ([] : List UInt8), ([] : List UInt8)), ([] : List UInt8), false, (2 : Int))
theorem fault2 : C.value_Fault 2 = some ((4 : Int), (false, ([] : List UInt8), ([] : List UInt8)), ([] : List UInt8), false, (2 : Int)) := of_depth 30 (by kernel_rfl)
theorem vtext_eq (s : List UInt8) (hs : s.length ≤ 9223372036854775807) : C.value_Text s = some (vtext s) := by
  rw [C.value_Text_eq, plain0 s hs, Option.bind_some, fault2, Option.bind_some, vtext]
  cases plainQ s <;> rfl
def vtextQ (s : List UInt8) : Option (den VTy) := cond (ok1 s) (some (vtext s)) none
theorem vtext_ok {inv : World → Prop} (hi : ∀ w, inv w → MaxLen w) : CallT Tryz.prog 34 [.str] [VTy] inv vtextQ := call_of (i := 34) (by kernel_rfl) (g := vtextQ) (fun y r h => by
  obtain ⟨hc, rfl⟩ := cond_some h
  exact vtext_eq y (by have := ok1_le hc; omega)) hi
end Go.Proofs.YtenapomineinbaaGreatDoor.Q

/- abacist/lex.text: a text as formulas have it: the contract, by hand (a strings.Builder; a label that the run jumps back to). -/
namespace Go.Proofs.YtenapomineinbaaGreatDoor.Q
open Go Go.RowKit Go.Shelf
open Go.Proofs.YtenapomineinbaaGreatDoor.K (Ty den tyL RetT CallT cond_some ret_str denStr DenL DenL_2 DenL_1 DenV DeepC ResL_plain hasOwn oneV MaxLen cutF)
set_option linter.unusedVariables false
set_option linter.unusedSimpArgs false
variable {inv : World → Prop}
/-! ### what it tells -/
def posQ (c : UInt8) : List UInt8 → Option Nat
  | [] => none
  | b :: s => if b = c then some 0 else (posQ c s).map (· + 1)
theorem indexByte_posQ (c : UInt8) : ∀ s : List UInt8, Lib.indexByte s c = (match posQ c s with
    | none => -1
    | some k => (k : Int))
  | [] => rfl
  | b :: s => by
    simp only [Lib.indexByte, posQ, indexByte_posQ c s]
    by_cases h : b = c
    · simp [h]
    · rw [if_neg h, if_neg (by simpa using h)]
      cases posQ c s with
      | none => rfl
      | some k => simp
theorem posQ_lt {c : UInt8} : ∀ {s : List UInt8} {k : Nat}, posQ c s = some k → k < s.length
  | [], k, h => by simp [posQ] at h
  | b :: s, k, h => by
    simp only [posQ] at h
    split at h
    · cases h; simp
    · cases hp : posQ c s with
      | none => rw [hp] at h; cases h
      | some j => rw [hp] at h; have := posQ_lt hp; simp at h; simp; omega
theorem cut_none (c : UInt8) (s : List UInt8) (h : posQ c s = none) : Lib.cut s [c] = (s, [], false) := by
  unfold Lib.cut
  rw [Lib.index_one, indexByte_posQ, h]; rfl
theorem cut_some (c : UInt8) (s : List UInt8) (k : Nat) (h : posQ c s = some k) : Lib.cut s [c] = (s.take k, s.drop (k + 1), true) := by
  unfold Lib.cut
  rw [Lib.index_one, indexByte_posQ, h]
  simp only [Int.toNat_natCast]; rw [if_pos (by omega)]; rfl
/-- The text behind an opening quote, and how many bytes it has with the closing one. -/
def txtB : Nat → List UInt8 → Option (List UInt8 × Nat)
  | 0, _ => none
  | f + 1, r => match posQ 34 r with
    | none => none
    | some k => cond ([34].isPrefixOf (r.drop (k + 1))) ((txtB f (r.drop (k + 2))).map fun x => (r.take k ++ 34 :: x.1, k + 2 + x.2)) (some (r.take k, k + 1))
theorem txtB_none (f : Nat) (r : List UInt8) (h : posQ 34 r = none) : txtB f r = none := by
  cases f with
  | zero => rfl
  | succ f => simp only [txtB, h]
theorem txtB_more {f g : Nat} : ∀ {r : List UInt8}, r.length < f → r.length < g → txtB f r = txtB g r := by
  induction f generalizing g with
  | zero => intro r h; omega
  | succ f ih =>
    intro r h1 h2
    cases g with
    | zero => omega
    | succ g =>
      simp only [txtB]
      cases h : posQ 34 r with
      | none => rfl
      | some k =>
        have := posQ_lt h
        simp only
        rw [ih (g := g) (by simp; omega) (by simp; omega)]
def txt (r : List UInt8) : Option (List UInt8 × Nat) := txtB (r.length + 1) r
theorem txt_none {r : List UInt8} (h : posQ 34 r = none) : txt r = none := txtB_none _ _ h
theorem txt_more {r : List UInt8} {k : Nat} (h : posQ 34 r = some k) (h2 : [34].isPrefixOf (r.drop (k + 1)) = true) : txt r = (txt (r.drop (k + 2))).map fun x => (r.take k ++ 34 :: x.1, k + 2 + x.2) := by
  have := posQ_lt h
  have e : txtB r.length (r.drop (k + 2)) = txt (r.drop (k + 2)) := txtB_more (by simp; omega) (by omega)
  conv => lhs; unfold txt
  simp only [txtB, h]
  rw [h2, cond_true, e]
theorem txt_end {r : List UInt8} {k : Nat} (h : posQ 34 r = some k) (h2 : [34].isPrefixOf (r.drop (k + 1)) = false) : txt r = some (r.take k, k + 1) := by
  unfold txt
  simp only [txtB, h]
  rw [h2, cond_false]
theorem txt_len : ∀ (n : Nat) (r : List UInt8), r.length ≤ n → ∀ o m, txt r = some (o, m) → o.length + 1 ≤ m ∧ m ≤ r.length := by
  intro n
  induction n with
  | zero =>
    intro r hr o m h
    obtain rfl : r = [] := List.length_eq_zero_iff.1 (by omega)
    rw [txt_none rfl] at h; cases h
  | succ n ih =>
    intro r hr o m h
    cases hp : posQ 34 r with
    | none => rw [txt_none hp] at h; cases h
    | some k =>
      have hk := posQ_lt hp
      cases h2 : [34].isPrefixOf (r.drop (k + 1)) with
      | false => rw [txt_end hp h2] at h; cases h; simp; omega
      | true =>
        rw [txt_more hp h2] at h
        cases ht : txt (r.drop (k + 2)) with
        | none => rw [ht] at h; cases h
        | some x =>
          rw [ht] at h
          obtain ⟨o', m'⟩ := x
          cases h
          have := ih (r.drop (k + 2)) (by simp; omega) o' m' ht
          simp at this ⊢
          omega
abbrev Tok : Type := Int × List UInt8 × Int × Bool × List UInt8 × List UInt8
def noTok : Tok := (0, [], 0, false, [], [])
def textV (s : List UInt8) (at_ : Nat) : Tok × Int × Int :=
  match txt (s.drop (at_ + 1)) with
  | none => (noTok, 0, 10)
  | some x => cond (plainQ x.1) (((2 : Int), x.1, (at_ : Int), false, [], []), ((x.2 + 1 : Nat) : Int), 0) (noTok, 0, 10)
def tokV (t : Tok) : Value := .agg #[.int .i64 t.1, .string ⟨t.2.1.toArray⟩, .int .i64 t.2.2.1, .bool t.2.2.2.1, .string ⟨t.2.2.2.2.1.toArray⟩, .string ⟨t.2.2.2.2.2.toArray⟩]
/-! ### contracts of what it calls -/
def renB : Go.Shelf.Ren := ⟨fun n => if n = 167 then 183 else Tryz.lays105_ren.f n, Tryz.lays105_ren.t, Tryz.lays105_ren.g⟩
section
set_option maxRecDepth 1000000
theorem renB167 : Tryz.prog.funcs[renB.f 167]? = some (Go.Proofs.Body.n167 renB) := Tryz.func183.trans (congrArg some (by kernel_rfl))
theorem renB240 : Tryz.prog.funcs[renB.f 240]? = some (Go.Proofs.Body.n240 renB) := Tryz.func186.trans (congrArg some (by kernel_rfl))
theorem renB276 : Tryz.prog.funcs[renB.f 276]? = some (Go.Proofs.Body.n276 renB) := Tryz.func216.trans (congrArg some (by kernel_rfl))
theorem laysB : Go.Proofs.Lays.n167 Tryz.prog renB := { Tryz.lays105 with
  f167 := renB167
  f240 := renB240
  f276 := renB276 }
end
section
set_option maxRecDepth 1000000
theorem writeByte (B b : Nat) (bs : List Value) (c : Int) (w : World) (h : Lib.IsBuilderF 133 5 B b bs w) (hlen : bs.length + 1 ≤ 140737488355328) (hBw : B ≤ w.heap.size) :
    Calls Tryz.prog 183 #[.pointer (some ⟨b, 0, none⟩), .int .u8 c] w fun e w' => e = .returned .nilIface ∧ (Lib.BuilderAtF 133 5 B b (.pointer (some ⟨b, 0, none⟩)) (bs ++ [.int .u8 c]) w' ∧ Below B w w' ∧ Lib.OthersKept 5 (some b) w w') :=
  Any.Builder_WriteByte_k (P := Tryz.prog) (ρ := renB) laysB { Tryz.Builder_Extra_105 with } B b bs c w h hlen hBw
end
theorem cCut (h : CallT Tryz.prog 83 [.str, .str] [.str, .str, .bool] inv cutF) (l : List UInt8) (hl : l.length < 4294967281) (W : World) (hi : inv W) :
    Calls Tryz.prog 83 #[.string ⟨l.toArray⟩, .string ⟨#[34]⟩] W fun e w' => e = .returned (.tuple #[.string ⟨(Lib.cut l [34]).1.toArray⟩, .string ⟨(Lib.cut l [34]).2.1.toArray⟩, .bool (Lib.cut l [34]).2.2]) ∧ Below W.heap.size W w' := by
  have hg : cutF (l, [34]) = some (Lib.cut l [34]) := by unfold cutF; rw [decide_eq_true hl, cond_true]
  refine (h (l, [34]) _ hg W (fun _ => False) [.string ⟨l.toArray⟩, .string ⟨#[34]⟩] (fun _ h => h.elim) hi (denL2 (denS' _) (denStr [34]))).mono fun e w' hr => ?_
  obtain ⟨ok, vs, rfl, hb, hd⟩ := ret_any rfl hr
  obtain ⟨v1, vs1, rfl, h1, hd⟩ := hd
  obtain ⟨v2, vs2, rfl, h2, hd⟩ := hd
  obtain ⟨v3, rfl, h3⟩ := hd
  obtain rfl := denS h1
  obtain rfl := denS h2
  obtain rfl := denB h3
  exact ⟨rfl, hb⟩
theorem cText (h : CallT Tryz.prog 34 [.str] [VTy] inv vtextQ) (l : List UInt8) (hl : l.length ≤ 1000000000) (W : World) (hi : inv W) :
    Calls Tryz.prog 34 #[.string ⟨l.toArray⟩] W fun e w' => (∃ x1 x2 x3 x4 x5 x6, e = .returned (.agg #[.int .i64 (cond (plainQ l) 2 4), x1, x2, x3, x4, x5, x6])) ∧ Below W.heap.size W w' := by
  have hg : vtextQ l = some (vtext l) := by unfold vtextQ ok1; rw [show Nat.ble l.length 1000000000 = true from Nat.ble_eq_true_of_le hl, cond_true]
  refine (h l _ hg W (fun _ => False) [.string ⟨l.toArray⟩] (fun _ h => h.elim) hi (denStr l)).mono fun e w' hr => ?_
  obtain ⟨ok, vs, rfl, hb, hd⟩ := ret_any rfl hr
  obtain ⟨v, rfl, hd1⟩ := hd
  have hd2 : ∃ vs : List Value, v = .agg vs.toArray ∧ DeepC w'.heap ok VTy (vtext l) vs := hd1
  clear hd1
  obtain ⟨vs, rfl, hd3⟩ := hd2
  obtain ⟨a1, r1, rfl, h1, a2, r2, rfl, ⟨b1, b2, rfl, hb1, b3, b4, rfl, hb3, hb4⟩, a3, r3, rfl, h3, a4, a5, rfl, h4, h5⟩ := hd3
  cases h1; cases hb1; cases hb3; cases hb4; cases h3; cases h4; cases h5
  refine ⟨?_, hb⟩
  unfold vtext
  cases plainQ l <;> exact ⟨_, _, _, _, _, _, rfl⟩
theorem cPre (l : List UInt8) (W : World) : Calls Tryz.prog 101 #[.string ⟨l.toArray⟩, .string ⟨#[34]⟩] W fun e w' => e = .returned (.bool ([34].isPrefixOf l)) ∧ w' = W := Tryz.strings_HasPrefix ⟨l.toArray⟩ ⟨#[34]⟩ W
theorem builder_below {T e : TypeId} {B b : Nat} {bs : List Value} {W W' : World} (h : Lib.IsBuilderF T e B b bs W) (hb : Below W.heap.size W W') : Lib.IsBuilderF T e B b bs W' := by
  have go : ∀ p, Lib.BuilderAtF T e B b p bs W → Lib.BuilderAtF T e B b p bs W' := by
    intro p h
    have hlt := h.lt
    obtain ⟨hB, v, hv, hown, hne⟩ := h
    exact ⟨hB, v, (hb.block b hlt).trans hv, hown.kept (row := none) ⟨hb.os, hb.tape, hb.output, hb.size, fun k hk _ => hb.block k hk⟩ (Classical.em _), hne⟩
  exact h.elim (fun x => .inl (go _ x)) (fun x => .inr (go _ x))
theorem builder_lt {T e : TypeId} {B b : Nat} {bs : List Value} {W : World} (h : Lib.IsBuilderF T e B b bs W) : b < W.heap.size := h.elim (fun x => x.lt) (fun x => x.lt)
theorem results_three {P : Program} {fn : Func} {p u v : Tmp} {ty : TypeId} (h : fn.results = #[.cell p ty, .tmp u, .tmp v]) (tmps : Array Value) (w : World) (g : Nat) (t : TypeId) (cs : Array Value) (fr : Nat × Nat) (d : TypeDesc)
    (hp : tmps.getD p undef = .pointer (some ⟨g, 0, none⟩)) (hg : w.heap[g]? = some (.cells cs t fr))
    (hu : P.underlying ty = some d) (hd : (match d with | .struct _ | .array _ _ => true | _ => false) = true) (hi : (P.info? ty).map (·.size) = some cs.size) :
    (results fn tmps).run P w = .ok (.tuple #[.agg cs, tmps.getD u undef, tmps.getD v undef]) w := by
  have hp' : tmps[p]?.getD undef = .pointer (some ⟨g, 0, none⟩) := by simpa using hp
  simp [results, h, hp', asAddr, Sem.run_bind, Result.andThen, run_loadVar_row w g t ty cs fr d hg hu hd hi]
theorem fldV (a x1 x2 x3 x4 x5 x6 : Value) (W : World) : (Instr.field 37 (.agg #[a, x1, x2, x3, x4, x5, x6]) 0).run Tryz.prog W = .ok a W := by kernel_rfl
theorem scope_again {P : Program} {a : Act} {w : World} {Q : Exit → Act → World → Prop} {c rest : Code} (l : Nat) (J : Act → World → Prop) (μ : Act → World → Nat) (hf : findLabel c l = some (.seq .skip rest))
    (pass : ∀ a w, J a w → rest.wp P (Exit.jump l (fun a' w' => J a' w' ∧ μ a' w' < μ a w) Q) a w)
    (first : (∀ a w, J a w → rest.wp P (Exit.jump l J Q) a w) → c.wp P (Exit.jump l J Q) a w) : (Code.scope c).wp P Q a w :=
  wp_scope_jumps l J μ hf (first fun a w h => wp_mono (pass a w h) fun e a w q => by cases e <;> first | exact q | exact ⟨q.1, q.2.1⟩) fun a w h => wp_seq (wp_skip (pass a w h))
/-- What holds at every jump. -/
def AtNext (s : List UInt8) (at_ : Nat) (w : World) (a' : Act) (W : World) : Prop :=
  ∃ (acc r : List UInt8) (c : Nat) (u8 u9 u10 u13 u14 u15 u16 u17 u18 u19 u20 u21 u22 u23 u24 u25 u26 u27 u28 u29 u30 u31 u32 u33 u34 u35 u36 u37 u38 u39 u40 u41 u42 u43 u44 u45 u46 u47 u48 u49 : Value),
    a' = { tmps := #[.string ⟨s.toArray⟩, .int .i64 (at_ : Int), undef, undef, .pointer (some ⟨w.heap.size, 0, none⟩), .int .i64 0, .int .i64 0, .pointer (some ⟨w.heap.size + 1, 0, none⟩), u8, u9, u10, .string ⟨r.toArray⟩, .int .i64 (c : Int), u13, u14, u15, u16, u17, u18, u19, u20, u21, u22, u23, u24, u25, u26, u27, u28, u29, u30, u31, u32, u33, u34, u35, u36, u37, u38, u39, u40, u41, u42, u43, u44, u45, u46, u47, u48, u49], defers := [] } ∧
    Lib.IsBuilderF 133 5 (w.heap.size + 1) (w.heap.size + 1) (Lib.byteCells acc) W ∧ Below (w.heap.size + 1) (w.alloc (.cells #[.int .i64 0, .string ⟨#[]⟩, .int .i64 0, .bool false, .string ⟨#[]⟩, .string ⟨#[]⟩] 68)) W ∧
    acc.length + r.length ≤ s.length ∧ 1 ≤ c ∧ c + r.length ≤ s.length + 1 ∧ txt (s.drop (at_ + 1)) = (txt r).map fun x => (acc ++ x.1, c - 1 + x.2)
def restLen (a : Act) (_ : World) : Nat := strLen (a.tmps.getD 11 undef)
set_option maxRecDepth 1000000 in
set_option maxHeartbeats 4000000 in
theorem mainL (hk : ∀ w w', inv w → Below w.heap.size w w' → inv w') (hText : CallT Tryz.prog 34 [.str] [VTy] inv vtextQ) (hCut : CallT Tryz.prog 83 [.str, .str] [.str, .str, .bool] inv cutF)
    (s : List UInt8) (at_ : Nat) (hat : at_ < s.length) (hs : s.length ≤ 1000000) (w : World) (hw : inv w) :
    Calls Tryz.prog 126 #[.string ⟨s.toArray⟩, .int .i64 (at_ : Int)] w fun e w' => e = .returned (.tuple #[tokV (textV s at_).1, .int .i64 (textV s at_).2.1, .int .i64 (textV s at_).2.2]) ∧ Below w.heap.size w w' := by
  go_enter Tryz.func126, Tryz.ntmps126
  go_wp2
  refine scope_again 0 (AtNext s at_ w) restLen rfl ?_ ?_
  · rintro a W ⟨acc, r, c, u8, u9, u10, u13, u14, u15, u16, u17, u18, u19, u20, u21, u22, u23, u24, u25, u26, u27, u28, u29, u30, u31, u32, u33, u34, u35, u36, u37, u38, u39, u40, u41, u42, u43, u44, u45, u46, u47, u48, u49, rfl, hbd, hB, h1, h2, h3, h4⟩
    have hbw : Below w.heap.size w W := ((Below.refl _ w).alloc (Nat.le_refl _) _).trans (hB.mono (Nat.le_succ _))
    have hsz : w.heap.size + 1 < W.heap.size := builder_lt hbd
    have hres : W.heap[w.heap.size]? = some (.cells #[.int .i64 0, .string ⟨#[]⟩, .int .i64 0, .bool false, .string ⟨#[]⟩, .string ⟨#[]⟩] 68 (0, 0)) := (hB.block _ (by simp)).trans (World.alloc_heap_new _ _)
    have hi' : inv W := hk _ _ hw hbw
    cases hp : posQ 34 r with
    | none =>
      have hcut := cut_none 34 r hp
      go_wp2_with (first
        | (refine wpList_store_row rfl 68 _ _ rfl w.heap.size #[.int .i64 0, .string ⟨#[]⟩, .int .i64 0, .bool false, .string ⟨#[]⟩, .string ⟨#[]⟩] rfl rfl 68 _ hres1 (by kernel_rfl) rfl (by simp [Value.oneCell']) ?_)
        | (go_at_call 83; refine (cCut hCut r (by omega) _ hi').mono ?_; rw [hcut]; rintro e W1 ⟨rfl, b1⟩; have hres1 := (b1.block _ (Nat.lt_of_succ_lt hsz)).trans hres))
      have hT : textV s at_ = (noTok, 0, 10) := by unfold textV; rw [h4, txt_none hp]; rfl
      simp only [Exit.jump]
      refine bodyPost_ret (results_three rfl _ _ w.heap.size 68 _ (0, 0) _ rfl (setRow_heap _ _ _ _ _ _ hres1) Tryz.underlying68 rfl (by kernel_rfl)) rfl ⟨by rw [hT]; rfl, below_setRow (hbw.trans (b1.mono hbw.size)) (Nat.le_refl _) _⟩
    | some k =>
      have hcut := cut_some 34 r k hp
      have hkr := posQ_lt hp
      have lt1 : (r.take k).length = k := by rw [List.length_take]; omega
      cases hpre : [34].isPrefixOf (r.drop (k + 1)) with
      | true =>
        have l2 : k + 1 < r.length := by
          rcases Nat.lt_or_ge (k + 1) r.length with h | h
          · exact h
          · rw [List.drop_of_length_le h] at hpre; cases hpre
        go_wp2_with (first
          | (go_at_call 83; refine (cCut hCut r (by omega) _ hi').mono ?_; rw [hcut]; rintro e W1 ⟨rfl, b1⟩; have hbd1 := builder_below hbd b1; have hB1 := hB.trans (b1.mono (by omega)); have hz1 := builder_lt hbd1)
          | (go_at_call 140; refine (writeStr _ _ _ ⟨(r.take k).toArray⟩ _ hbd1 (by rw [Lib.byteCells_length]; show acc.length + (r.take k).toArray.size ≤ _; rw [List.size_toArray]; omega) (by omega)).mono ?_; rintro e W2 ⟨rfl, c2, b2, k2⟩; have hbd2 : Lib.IsBuilderF 133 5 _ _ _ W2 := Or.inr c2; have hB2 := hB1.trans b2; have hz2 := builder_lt hbd2)
          | (go_at_call 101; refine (cPre (r.drop (k + 1)) _).mono ?_; rw [hpre]; rintro e W3 ⟨rfl, rfl⟩)
          | (go_at_call 183; refine (writeByte _ _ _ 34 _ hbd2 (by rw [List.length_append, Lib.byteCells_length]; show acc.length + (Lib.byteCells (r.take k)).length + 1 ≤ _; rw [Lib.byteCells_length]; omega) (by omega)).mono ?_; rintro e W4 ⟨rfl, c4, b4, k4⟩; have hbd4 : Lib.IsBuilderF 133 5 _ _ _ W4 := Or.inr c4; have hB4 := hB2.trans b4))
        go_step3
        show (0 : Nat) = 0 ∧ AtNext s at_ w _ W4 ∧ _
        have e1 : (⟨(r.drop (k + 1)).toArray⟩ : ByteArray).extract 1 (r.length - (k + 1)) = ⟨(r.drop (k + 2)).toArray⟩ := by
          apply ByteArray.ext
          simp [ByteArray.extract, ByteArray.copySlice]
          exact List.take_of_length_le (by simp; omega)
        rw [e1, show (c : Int) + ((k : Int) + 1) + 1 = ((c + (k + 1) + 1 : Nat) : Int) by omega]
        refine ⟨rfl, ⟨acc ++ (r.take k ++ [34]), r.drop (k + 2), c + (k + 1) + 1, _, _, _, _, _, _, _, _, _, _, _, _, _, _, _, _, _, _, _, _, _, _, _, _, _, _, _, _, _, _, _, _, _, _, _, _, _, _, _, _, rfl, ?_, hB4, ?_, by omega, ?_, ?_⟩, ?_⟩
        · rw [← List.append_assoc, Lib.byteCells_append, Lib.byteCells_append]; exact hbd4
        · simp; omega
        · simp; omega
        · rw [h4, txt_more hp hpre]
          cases txt (r.drop (k + 2)) with
          | none => rfl
          | some x => simp; omega
        · show (r.drop (k + 2)).toArray.size < r.toArray.size
          simp; omega
      | false =>
        cases hpl : plainQ (acc ++ r.take k) with
        | false =>
          go_wp2_with (first
          | (refine wpList_store_row rfl 68 _ _ rfl w.heap.size #[.int .i64 0, .string ⟨#[]⟩, .int .i64 0, .bool false, .string ⟨#[]⟩, .string ⟨#[]⟩] rfl rfl 68 _ hres6 (by kernel_rfl) rfl (by simp [Value.oneCell']) ?_)
          | (go_at_call 83; refine (cCut hCut r (by omega) _ hi').mono ?_; rw [hcut]; rintro e W1 ⟨rfl, b1⟩; have hbd1 := builder_below hbd b1; have hB1 := hB.trans (b1.mono (by omega)); have hz1 := builder_lt hbd1)
          | (go_at_call 140; refine (writeStr _ _ _ ⟨(r.take k).toArray⟩ _ hbd1 (by rw [Lib.byteCells_length]; show acc.length + (r.take k).toArray.size ≤ _; rw [List.size_toArray]; omega) (by omega)).mono ?_; rintro e W2 ⟨rfl, c2, b2, k2⟩; have hbd2 : Lib.IsBuilderF 133 5 _ _ (Lib.byteCells (acc ++ r.take k)) W2 := (by rw [Lib.byteCells_append]; exact Or.inr c2); have hB2 := hB1.trans b2; have hz2 := builder_lt hbd2)
          | (go_at_call 101; refine (cPre (r.drop (k + 1)) _).mono ?_; rw [hpre]; rintro e W3 ⟨rfl, rfl⟩)
          | (go_at_call 142; refine (Tryz.Builder_String_any_k _ _ _ _ hbd2 (by omega)).mono ?_; rintro e W5 ⟨rfl, hbd5, b5, k5⟩; have hB5 := hB2.trans b5; have hbw5 : Below w.heap.size w W5 := ((Below.refl _ w).alloc (Nat.le_refl _) _).trans (hB5.mono (Nat.le_succ _)); have hz5 := builder_lt hbd5)
          | (go_at_call 34; refine (cText hText (acc ++ r.take k) (by rw [List.length_append]; omega) _ (hk _ _ hw hbw5)).mono ?_; simp only [hpl, cond_true, cond_false]; rintro e W6 ⟨⟨x1, x2, x3, x4, x5, x6, rfl⟩, b6⟩; have hfl := fun a => fldV a x1 x2 x3 x4 x5 x6 W6; have hbd6 := builder_below hbd5 b6; have hB6 := hB5.trans (b6.mono (by omega)); have hz6 := builder_lt hbd6; have hres6 := (hB6.block _ (by simp)).trans (World.alloc_heap_new _ _)))
          have hT : textV s at_ = (noTok, 0, 10) := by unfold textV; rw [h4, txt_end hp hpre]; simp only [Option.map_some]; rw [hpl]; rfl
          simp only [Exit.jump]
          refine bodyPost_ret (results_three rfl _ _ w.heap.size 68 _ (0, 0) _ rfl (setRow_heap _ _ _ _ _ _ hres6) Tryz.underlying68 rfl (by kernel_rfl)) rfl ⟨by rw [hT]; rfl, below_setRow (((Below.refl _ w).alloc (Nat.le_refl _) _).trans (hB6.mono (Nat.le_succ _))) (Nat.le_refl _) _⟩
        | true =>
          go_wp2_with (first
          | (refine wpList_store_row rfl 68 _ _ rfl w.heap.size #[.int .i64 2, .string ⟨(acc ++ r.take k).toArray⟩, .int .i64 (at_ : Int), .bool false, .string ⟨#[]⟩, .string ⟨#[]⟩] rfl rfl 68 _ hres7 (by kernel_rfl) rfl (by simp [Value.oneCell']) ?_)
          | (go_at_call 83; refine (cCut hCut r (by omega) _ hi').mono ?_; rw [hcut]; rintro e W1 ⟨rfl, b1⟩; have hbd1 := builder_below hbd b1; have hB1 := hB.trans (b1.mono (by omega)); have hz1 := builder_lt hbd1)
          | (go_at_call 140; refine (writeStr _ _ _ ⟨(r.take k).toArray⟩ _ hbd1 (by rw [Lib.byteCells_length]; show acc.length + (r.take k).toArray.size ≤ _; rw [List.size_toArray]; omega) (by omega)).mono ?_; rintro e W2 ⟨rfl, c2, b2, k2⟩; have hbd2 : Lib.IsBuilderF 133 5 _ _ (Lib.byteCells (acc ++ r.take k)) W2 := (by rw [Lib.byteCells_append]; exact Or.inr c2); have hB2 := hB1.trans b2; have hz2 := builder_lt hbd2)
          | (go_at_call 101; refine (cPre (r.drop (k + 1)) _).mono ?_; rw [hpre]; rintro e W3 ⟨rfl, rfl⟩)
          | (go_at_call 142; refine (Tryz.Builder_String_any_k _ _ _ _ hbd6 (by omega)).mono ?_; rintro e W7 ⟨rfl, hbd7, b7, k7⟩; have hB7 := hB6.trans b7; have hres7 := (hB7.block _ (by simp)).trans (World.alloc_heap_new _ _))
          | (go_at_call 142; refine (Tryz.Builder_String_any_k _ _ _ _ hbd2 (by omega)).mono ?_; rintro e W5 ⟨rfl, hbd5, b5, k5⟩; have hB5 := hB2.trans b5; have hbw5 : Below w.heap.size w W5 := ((Below.refl _ w).alloc (Nat.le_refl _) _).trans (hB5.mono (Nat.le_succ _)); have hz5 := builder_lt hbd5)
          | (go_at_call 34; refine (cText hText (acc ++ r.take k) (by rw [List.length_append]; omega) _ (hk _ _ hw hbw5)).mono ?_; simp only [hpl, cond_true, cond_false]; rintro e W6 ⟨⟨x1, x2, x3, x4, x5, x6, rfl⟩, b6⟩; have hfl := fun a => fldV a x1 x2 x3 x4 x5 x6 W6; have hbd6 := builder_below hbd5 b6; have hB6 := hB5.trans (b6.mono (by omega)); have hz6 := builder_lt hbd6; have hres6 := (hB6.block _ (by simp)).trans (World.alloc_heap_new _ _)))
          have hT : textV s at_ = (((2 : Int), acc ++ r.take k, (at_ : Int), false, [], []), ((c + (k + 1) : Nat) : Int), 0) := by
            unfold textV; rw [h4, txt_end hp hpre]; simp only [Option.map_some]; rw [hpl, cond_true, show c - 1 + (k + 1) + 1 = c + (k + 1) by omega]
          simp only [Exit.jump]
          refine bodyPost_ret (results_three rfl _ _ w.heap.size 68 _ (0, 0) _ rfl (setRow_heap _ _ _ _ _ _ hres7) Tryz.underlying68 rfl (by kernel_rfl)) rfl ⟨by rw [hT]; rfl, below_setRow (((Below.refl _ w).alloc (Nat.le_refl _) _).trans (hB7.mono (Nat.le_succ _))) (Nat.le_refl _) _⟩
  · intro hrest
    go_wp2
    go_step3
    rename_i hK
    have e1 : (⟨s.toArray⟩ : ByteArray).extract (at_ + 1) s.length = ⟨(s.drop (at_ + 1)).toArray⟩ := by
      apply ByteArray.ext
      simp [ByteArray.extract, ByteArray.copySlice]
      exact List.take_of_length_le (by simp)
    rw [e1]
    refine hK _ _ (hrest _ _ ⟨[], s.drop (at_ + 1), 1, _, _, _, _, _, _, _, _, _, _, _, _, _, _, _, _, _, _, _, _, _, _, _, _, _, _, _, _, _, _, _, _, _, _, _, _, _, _, _, _, rfl, ?_, ?_, ?_, Nat.le_refl _, ?_, ?_⟩)
    · have := Lib.fresh_isBuilder 133 5 (w.alloc (.cells #[.int .i64 0, .string ⟨#[]⟩, .int .i64 0, .bool false, .string ⟨#[]⟩, .string ⟨#[]⟩] 68))
      exact Lib.IsBuilderF.of (by rw [show Lib.byteCells [] = [] from rfl]; simpa using this)
    · exact (Below.refl _ _).alloc (by simp) _
    · simp
    · simp; omega
    · cases txt (s.drop (at_ + 1)) with
      | none => rfl
      | some x => simp
abbrev TokTy : Ty := .pair (.int .i64) (.pair .str (.pair (.int .i64) (.pair .bool (.pair .str .str))))
theorem denTok {hp : Array Obj} {ok : Nat → Prop} (t : Tok) : DenL hp ok [TokTy] t [tokV t] := by
  refine ⟨_, rfl, ?_⟩
  show ∃ vs : List Value, tokV t = .agg vs.toArray ∧ DeepC hp ok TokTy t vs
  exact ⟨[.int .i64 t.1, .string ⟨t.2.1.toArray⟩, .int .i64 t.2.2.1, .bool t.2.2.2.1, .string ⟨t.2.2.2.2.1.toArray⟩, .string ⟨t.2.2.2.2.2.toArray⟩], rfl, [_], [_, _, _, _, _], rfl, rfl, [_], [_, _, _, _], rfl, rfl, [_], [_, _, _], rfl, rfl, [_], [_, _], rfl, rfl, [_], [_], rfl, rfl, rfl⟩
def lexQ (y : List UInt8 × Int) : Option (Tok × Int × Int) := cond (decide (0 ≤ y.2) && (decide (y.2 < (y.1.length : Int)) && Nat.ble y.1.length 1000000)) (some (textV y.1 y.2.toNat)) none
theorem lex_ok (hk : ∀ w w', inv w → Below w.heap.size w w' → inv w') (hi : ∀ w, inv w → MaxLen w) : CallT Tryz.prog 126 [.str, .int .i64] [TokTy, .int .i64, .int .i64] inv lexQ := by
  intro y r h w fz0 vs hfz hinv hd
  obtain ⟨hc, rfl⟩ := cond_some h
  simp only [Bool.and_eq_true, decide_eq_true_eq] at hc
  obtain ⟨v, us, rfl, d1, d2⟩ := K.unCons hd
  have e1 := K.unStr d1
  have e2 := K.unInt d2
  cases e1
  subst e2
  have e3 : y.2 = ((Int.toNat y.2 : Nat) : Int) := (Int.toNat_of_nonneg hc.1).symm
  have := mainL hk (vtext_ok hi) (K.cut_ok hi) y.1 (Int.toNat y.2) ((Int.toNat_lt hc.1).2 hc.2.1) (Nat.le_of_ble_eq_true hc.2.2) w hinv
  rw [← e3] at this
  refine this.mono fun e w' ⟨he, hb⟩ => ?_
  subst he
  exact K.retT_plain (ts := [TokTy, .int .i64, .int .i64]) [_, _, _] hb rfl (K.denCons (denTok _) (K.denCons (K.denInt _ _) (K.denInt _ _)))
end Go.Proofs.YtenapomineinbaaGreatDoor.Q
