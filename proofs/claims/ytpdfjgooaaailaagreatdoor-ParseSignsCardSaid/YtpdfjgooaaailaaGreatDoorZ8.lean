/- Part 8 of the proof: the machine, the tables and the pure laws that the last text joins. -/
import Derived.Test.YtpdfjgooaaailaaGreatDoorZ5
import Derived.Test.YtpdfjgooaaailaaGreatDoorZ7
import Derived.Test.YtpdfjgooaaailaaGreatDoorProg
set_option linter.unusedVariables false
set_option linter.unusedSimpArgs false
set_option maxRecDepth 100000
namespace Go.Proofs.YtpdfjgooaaailaaGreatDoor.K
open Go
theorem look_all {α : Type} {Q : Nat → α → Prop} : ∀ {l : List (Nat × α)}, (∀ p ∈ l, Q p.1 p.2) → ∀ t v, look l t = some v → Q t v
  | [], _, t, v, h => by cases h
  | (u, x) :: l, hl, t, v, h => by
    simp only [look] at h
    split at h
    · rename_i hb
      have := Nat.eq_of_beq_eq_true hb
      subst this
      cases h
      exact hl _ (List.mem_cons_self ..)
    · exact look_all (fun p hp => hl p (List.mem_cons_of_mem _ hp)) t v h
theorem all_nil {α : Type} {Q : Nat → α → Prop} : ∀ p ∈ ([] : List (Nat × α)), Q p.1 p.2 := fun p h => by cases h
theorem all_cons {α : Type} {Q : Nat → α → Prop} {u : Nat} {x : α} {l : List (Nat × α)} (h : Q u x) (hl : ∀ p ∈ l, Q p.1 p.2) : ∀ p ∈ (u, x) :: l, Q p.1 p.2 := fun p hp => by
  rcases List.mem_cons.1 hp with rfl | hp
  · exact h
  · exact hl p hp
theorem tiok3 : TIok Tryz.prog 3 ti3 := ⟨by kernel_rfl, by kernel_rfl, by kernel_rfl, by kernel_rfl, by kernel_rfl, by kernel_rfl, by kernel_rfl, by kernel_rfl, ⟨by kernel_rfl, by kernel_rfl, by kernel_rfl⟩, fun h => by cases h⟩
theorem tiok4 : TIok Tryz.prog 4 ti4 := ⟨by kernel_rfl, by kernel_rfl, by kernel_rfl, by kernel_rfl, by kernel_rfl, by kernel_rfl, by kernel_rfl, by kernel_rfl, ⟨by kernel_rfl, by kernel_rfl, by kernel_rfl⟩, fun h => by cases h⟩
theorem tiok5 : TIok Tryz.prog 5 ti5 := ⟨by kernel_rfl, by kernel_rfl, by kernel_rfl, by kernel_rfl, by kernel_rfl, by kernel_rfl, by kernel_rfl, by kernel_rfl, ⟨by kernel_rfl, by kernel_rfl, by kernel_rfl⟩, fun h => by cases h⟩
theorem tiok9 : TIok Tryz.prog 9 ti9 := ⟨by kernel_rfl, by kernel_rfl, by kernel_rfl, by kernel_rfl, by kernel_rfl, by kernel_rfl, by kernel_rfl, by kernel_rfl, ⟨by kernel_rfl, by kernel_rfl, by kernel_rfl⟩, fun h => by cases h⟩
theorem tiok22 : TIok Tryz.prog 22 ti22 := ⟨by kernel_rfl, by kernel_rfl, by kernel_rfl, by kernel_rfl, by kernel_rfl, by kernel_rfl, by kernel_rfl, by kernel_rfl, ⟨by kernel_rfl, by kernel_rfl, by kernel_rfl⟩, fun h => by cases h⟩
theorem tiok28 : TIok Tryz.prog 28 ti28 := ⟨by kernel_rfl, by kernel_rfl, by kernel_rfl, by kernel_rfl, by kernel_rfl, by kernel_rfl, by kernel_rfl, by kernel_rfl, ⟨by kernel_rfl, by kernel_rfl, by kernel_rfl⟩, fun h => by cases h⟩
theorem tiok30 : TIok Tryz.prog 30 ti30 := ⟨by kernel_rfl, by kernel_rfl, by kernel_rfl, by kernel_rfl, by kernel_rfl, by kernel_rfl, by kernel_rfl, by kernel_rfl, ⟨by kernel_rfl, by kernel_rfl, by kernel_rfl⟩, fun h => by cases h⟩
theorem tiok48 : TIok Tryz.prog 48 ti48 := ⟨by kernel_rfl, by kernel_rfl, by kernel_rfl, by kernel_rfl, by kernel_rfl, by kernel_rfl, by kernel_rfl, by kernel_rfl, trivial, fun h => by cases h⟩
theorem tiok52 : TIok Tryz.prog 52 ti52 := ⟨by kernel_rfl, by kernel_rfl, by kernel_rfl, by kernel_rfl, by kernel_rfl, by kernel_rfl, by kernel_rfl, by kernel_rfl, ⟨by kernel_rfl, by kernel_rfl, by kernel_rfl⟩, fun h => by cases h⟩
theorem tiok53 : TIok Tryz.prog 53 ti53 := ⟨by kernel_rfl, by kernel_rfl, by kernel_rfl, by kernel_rfl, by kernel_rfl, by kernel_rfl, by kernel_rfl, by kernel_rfl, ⟨by kernel_rfl, by kernel_rfl, by kernel_rfl⟩, fun h => by cases h⟩
theorem tiok55 : TIok Tryz.prog 55 ti55 := ⟨by kernel_rfl, by kernel_rfl, by kernel_rfl, by kernel_rfl, by kernel_rfl, by kernel_rfl, by kernel_rfl, by kernel_rfl, ⟨by kernel_rfl, by kernel_rfl, by kernel_rfl⟩, fun h => by cases h⟩
theorem tiok56 : TIok Tryz.prog 56 ti56 := ⟨by kernel_rfl, by kernel_rfl, by kernel_rfl, by kernel_rfl, by kernel_rfl, by kernel_rfl, by kernel_rfl, by kernel_rfl, ⟨by kernel_rfl, by kernel_rfl, by kernel_rfl⟩, fun h => by cases h⟩
theorem tiok60 : TIok Tryz.prog 60 ti60 := ⟨by kernel_rfl, by kernel_rfl, by kernel_rfl, by kernel_rfl, by kernel_rfl, by kernel_rfl, by kernel_rfl, by kernel_rfl, ⟨by kernel_rfl, by kernel_rfl, by kernel_rfl⟩, fun h => by cases h⟩
theorem tiok62 : TIok Tryz.prog 62 ti62 := ⟨by kernel_rfl, by kernel_rfl, by kernel_rfl, by kernel_rfl, by kernel_rfl, by kernel_rfl, by kernel_rfl, by kernel_rfl, ⟨by kernel_rfl, by kernel_rfl, by kernel_rfl⟩, fun h => by cases h⟩
theorem tiok67 : TIok Tryz.prog 67 ti67 := ⟨by kernel_rfl, by kernel_rfl, by kernel_rfl, by kernel_rfl, by kernel_rfl, by kernel_rfl, by kernel_rfl, by kernel_rfl, ⟨by kernel_rfl, by kernel_rfl, by kernel_rfl⟩, fun h => by cases h⟩
theorem tiok71 : TIok Tryz.prog 71 ti71 := ⟨by kernel_rfl, by kernel_rfl, by kernel_rfl, by kernel_rfl, by kernel_rfl, by kernel_rfl, by kernel_rfl, by kernel_rfl, ⟨by kernel_rfl, by kernel_rfl, by kernel_rfl⟩, fun h => by cases h⟩
theorem tiok77 : TIok Tryz.prog 77 ti77 := ⟨by kernel_rfl, by kernel_rfl, by kernel_rfl, by kernel_rfl, by kernel_rfl, by kernel_rfl, by kernel_rfl, by kernel_rfl, ⟨by kernel_rfl, by kernel_rfl, by kernel_rfl⟩, fun h => by cases h⟩
theorem tiok80 : TIok Tryz.prog 80 ti80 := ⟨by kernel_rfl, by kernel_rfl, by kernel_rfl, by kernel_rfl, by kernel_rfl, by kernel_rfl, by kernel_rfl, by kernel_rfl, trivial, fun h => by cases h⟩
theorem tiok82 : TIok Tryz.prog 82 ti82 := ⟨by kernel_rfl, by kernel_rfl, by kernel_rfl, by kernel_rfl, by kernel_rfl, by kernel_rfl, by kernel_rfl, by kernel_rfl, ⟨by kernel_rfl, by kernel_rfl, by kernel_rfl⟩, fun h => by cases h⟩
theorem tiok85 : TIok Tryz.prog 85 ti85 := ⟨by kernel_rfl, by kernel_rfl, by kernel_rfl, by kernel_rfl, by kernel_rfl, by kernel_rfl, by kernel_rfl, by kernel_rfl, ⟨by kernel_rfl, by kernel_rfl, by kernel_rfl⟩, fun h => by cases h⟩
theorem tiok91 : TIok Tryz.prog 91 ti91 := ⟨by kernel_rfl, by kernel_rfl, by kernel_rfl, by kernel_rfl, by kernel_rfl, by kernel_rfl, by kernel_rfl, by kernel_rfl, ⟨by kernel_rfl, by kernel_rfl, by kernel_rfl⟩, fun h => by cases h⟩
theorem tiok92 : TIok Tryz.prog 92 ti92 := ⟨by kernel_rfl, by kernel_rfl, by kernel_rfl, by kernel_rfl, by kernel_rfl, by kernel_rfl, by kernel_rfl, by kernel_rfl, trivial, fun h => by cases h⟩
theorem tiok139 : TIok Tryz.prog 139 ti139 := ⟨by kernel_rfl, by kernel_rfl, by kernel_rfl, by kernel_rfl, by kernel_rfl, by kernel_rfl, by kernel_rfl, by kernel_rfl, trivial, fun h => by cases h⟩
theorem tiok141 : TIok Tryz.prog 141 ti141 := ⟨by kernel_rfl, by kernel_rfl, by kernel_rfl, by kernel_rfl, by kernel_rfl, by kernel_rfl, by kernel_rfl, by kernel_rfl, trivial, fun h => by cases h⟩
theorem tiok177 : TIok Tryz.prog 177 ti177 := ⟨by kernel_rfl, by kernel_rfl, by kernel_rfl, by kernel_rfl, by kernel_rfl, by kernel_rfl, by kernel_rfl, by kernel_rfl, trivial, fun h => by cases h⟩
theorem tiok227 : TIok Tryz.prog 227 ti227 := ⟨by kernel_rfl, by kernel_rfl, by kernel_rfl, by kernel_rfl, by kernel_rfl, by kernel_rfl, by kernel_rfl, by kernel_rfl, ⟨by kernel_rfl, by kernel_rfl, by kernel_rfl⟩, fun h => by cases h⟩
theorem tis_ok : CtxTI Tryz.prog CT := look_all (l := tis) (all_cons tiok3 (all_cons tiok4 (all_cons tiok5 (all_cons tiok9 (all_cons tiok22 (all_cons tiok28 (all_cons tiok30 (all_cons tiok48 (all_cons tiok52 (all_cons tiok53 (all_cons tiok55 (all_cons tiok56 (all_cons tiok60 (all_cons tiok62 (all_cons tiok67 (all_cons tiok71 (all_cons tiok77 (all_cons tiok80 (all_cons tiok82 (all_cons tiok85 (all_cons tiok91 (all_cons tiok92 (all_cons tiok139 (all_cons tiok141 (all_cons tiok177 (all_cons tiok227 all_nil))))))))))))))))))))))))))
def FnOk (f : Nat) (fn : Func) : Prop := Tryz.prog.funcs[f]? = some fn ∧ fn.body.isSome = true ∧ (fn.name == "runtime.NumGoroutine") = false
def ParOk (i : Nat) (fn : Func) : Prop := ((look ptsL i).getD []).length ≤ fn.ntmps
theorem fnok26 : FnOk 26 Tryz.f26 := ⟨Tryz.func26, by kernel_rfl, by kernel_rfl⟩
theorem fnok52 : FnOk 52 Tryz.f52 := ⟨Tryz.func52, by kernel_rfl, by kernel_rfl⟩
theorem fnok53 : FnOk 53 Tryz.f53 := ⟨Tryz.func53, by kernel_rfl, by kernel_rfl⟩
theorem fnok61 : FnOk 61 Tryz.f61 := ⟨Tryz.func61, by kernel_rfl, by kernel_rfl⟩
theorem fnok88 : FnOk 88 Tryz.f88 := ⟨Tryz.func88, by kernel_rfl, by kernel_rfl⟩
theorem fnok90 : FnOk 90 Tryz.f90 := ⟨Tryz.func90, by kernel_rfl, by kernel_rfl⟩
theorem fnok91 : FnOk 91 Tryz.f91 := ⟨Tryz.func91, by kernel_rfl, by kernel_rfl⟩
theorem fnok123 : FnOk 123 Tryz.f123 := ⟨Tryz.func123, by kernel_rfl, by kernel_rfl⟩
theorem fnok125 : FnOk 125 Tryz.f125 := ⟨Tryz.func125, by kernel_rfl, by kernel_rfl⟩
theorem fnok132 : FnOk 132 Tryz.f132 := ⟨Tryz.func132, by kernel_rfl, by kernel_rfl⟩
theorem fnok133 : FnOk 133 Tryz.f133 := ⟨Tryz.func133, by kernel_rfl, by kernel_rfl⟩
theorem fnok140 : FnOk 140 Tryz.f140 := ⟨Tryz.func140, by kernel_rfl, by kernel_rfl⟩
theorem fnok141 : FnOk 141 Tryz.f141 := ⟨Tryz.func141, by kernel_rfl, by kernel_rfl⟩
theorem fnok142 : FnOk 142 Tryz.f142 := ⟨Tryz.func142, by kernel_rfl, by kernel_rfl⟩
theorem fnok143 : FnOk 143 Tryz.f143 := ⟨Tryz.func143, by kernel_rfl, by kernel_rfl⟩
theorem fnok172 : FnOk 172 Tryz.f172 := ⟨Tryz.func172, by kernel_rfl, by kernel_rfl⟩
theorem fnok180 : FnOk 180 Tryz.f180 := ⟨Tryz.func180, by kernel_rfl, by kernel_rfl⟩
theorem fnok181 : FnOk 181 Tryz.f181 := ⟨Tryz.func181, by kernel_rfl, by kernel_rfl⟩
theorem fnok182 : FnOk 182 Tryz.f182 := ⟨Tryz.func182, by kernel_rfl, by kernel_rfl⟩
theorem fnok214 : FnOk 214 Tryz.f214 := ⟨Tryz.func214, by kernel_rfl, by kernel_rfl⟩
theorem fnok229 : FnOk 229 Tryz.f229 := ⟨Tryz.func229, by kernel_rfl, by kernel_rfl⟩
theorem fnok231 : FnOk 231 Tryz.f231 := ⟨Tryz.func231, by kernel_rfl, by kernel_rfl⟩
theorem fnok233 : FnOk 233 Tryz.f233 := ⟨Tryz.func233, by kernel_rfl, by kernel_rfl⟩
theorem fnok236 : FnOk 236 Tryz.f236 := ⟨Tryz.func236, by kernel_rfl, by kernel_rfl⟩
theorem fnok237 : FnOk 237 Tryz.f237 := ⟨Tryz.func237, by kernel_rfl, by kernel_rfl⟩
theorem fnok242 : FnOk 242 Tryz.f242 := ⟨Tryz.func242, by kernel_rfl, by kernel_rfl⟩
theorem fnok5 : FnOk 5 Tryz.f5 := ⟨Tryz.func5, by kernel_rfl, by kernel_rfl⟩
theorem fnok13 : FnOk 13 Tryz.f13 := ⟨Tryz.func13, by kernel_rfl, by kernel_rfl⟩
theorem fnok14 : FnOk 14 Tryz.f14 := ⟨Tryz.func14, by kernel_rfl, by kernel_rfl⟩
theorem fnok15 : FnOk 15 Tryz.f15 := ⟨Tryz.func15, by kernel_rfl, by kernel_rfl⟩
theorem fnok16 : FnOk 16 Tryz.f16 := ⟨Tryz.func16, by kernel_rfl, by kernel_rfl⟩
theorem fnok17 : FnOk 17 Tryz.f17 := ⟨Tryz.func17, by kernel_rfl, by kernel_rfl⟩
theorem fnok22 : FnOk 22 Tryz.f22 := ⟨Tryz.func22, by kernel_rfl, by kernel_rfl⟩
theorem fnok27 : FnOk 27 Tryz.f27 := ⟨Tryz.func27, by kernel_rfl, by kernel_rfl⟩
theorem fnok28 : FnOk 28 Tryz.f28 := ⟨Tryz.func28, by kernel_rfl, by kernel_rfl⟩
theorem fnok29 : FnOk 29 Tryz.f29 := ⟨Tryz.func29, by kernel_rfl, by kernel_rfl⟩
theorem fnok30 : FnOk 30 Tryz.f30 := ⟨Tryz.func30, by kernel_rfl, by kernel_rfl⟩
theorem fnok34 : FnOk 34 Tryz.f34 := ⟨Tryz.func34, by kernel_rfl, by kernel_rfl⟩
theorem fnok37 : FnOk 37 Tryz.f37 := ⟨Tryz.func37, by kernel_rfl, by kernel_rfl⟩
theorem fnok51 : FnOk 51 Tryz.f51 := ⟨Tryz.func51, by kernel_rfl, by kernel_rfl⟩
theorem fnok65 : FnOk 65 Tryz.f65 := ⟨Tryz.func65, by kernel_rfl, by kernel_rfl⟩
theorem fnok80 : FnOk 80 Tryz.f80 := ⟨Tryz.func80, by kernel_rfl, by kernel_rfl⟩
theorem fnok87 : FnOk 87 Tryz.f87 := ⟨Tryz.func87, by kernel_rfl, by kernel_rfl⟩
theorem fnok89 : FnOk 89 Tryz.f89 := ⟨Tryz.func89, by kernel_rfl, by kernel_rfl⟩
theorem fnok108 : FnOk 108 Tryz.f108 := ⟨Tryz.func108, by kernel_rfl, by kernel_rfl⟩
theorem fnok110 : FnOk 110 Tryz.f110 := ⟨Tryz.func110, by kernel_rfl, by kernel_rfl⟩
theorem fnok113 : FnOk 113 Tryz.f113 := ⟨Tryz.func113, by kernel_rfl, by kernel_rfl⟩
theorem fnok121 : FnOk 121 Tryz.f121 := ⟨Tryz.func121, by kernel_rfl, by kernel_rfl⟩
theorem fnok126 : FnOk 126 Tryz.f126 := ⟨Tryz.func126, by kernel_rfl, by kernel_rfl⟩
theorem fnok128 : FnOk 128 Tryz.f128 := ⟨Tryz.func128, by kernel_rfl, by kernel_rfl⟩
theorem fnok134 : FnOk 134 Tryz.f134 := ⟨Tryz.func134, by kernel_rfl, by kernel_rfl⟩
theorem fnok135 : FnOk 135 Tryz.f135 := ⟨Tryz.func135, by kernel_rfl, by kernel_rfl⟩
theorem fnok136 : FnOk 136 Tryz.f136 := ⟨Tryz.func136, by kernel_rfl, by kernel_rfl⟩
theorem fnok137 : FnOk 137 Tryz.f137 := ⟨Tryz.func137, by kernel_rfl, by kernel_rfl⟩
theorem fnok138 : FnOk 138 Tryz.f138 := ⟨Tryz.func138, by kernel_rfl, by kernel_rfl⟩
theorem fnok139 : FnOk 139 Tryz.f139 := ⟨Tryz.func139, by kernel_rfl, by kernel_rfl⟩
theorem fnok153 : FnOk 153 Tryz.f153 := ⟨Tryz.func153, by kernel_rfl, by kernel_rfl⟩
theorem fnok157 : FnOk 157 Tryz.f157 := ⟨Tryz.func157, by kernel_rfl, by kernel_rfl⟩
theorem fnok162 : FnOk 162 Tryz.f162 := ⟨Tryz.func162, by kernel_rfl, by kernel_rfl⟩
theorem fnok163 : FnOk 163 Tryz.f163 := ⟨Tryz.func163, by kernel_rfl, by kernel_rfl⟩
theorem fnok164 : FnOk 164 Tryz.f164 := ⟨Tryz.func164, by kernel_rfl, by kernel_rfl⟩
theorem fnok166 : FnOk 166 Tryz.f166 := ⟨Tryz.func166, by kernel_rfl, by kernel_rfl⟩
theorem fnok171 : FnOk 171 Tryz.f171 := ⟨Tryz.func171, by kernel_rfl, by kernel_rfl⟩
theorem fnok174 : FnOk 174 Tryz.f174 := ⟨Tryz.func174, by kernel_rfl, by kernel_rfl⟩
theorem fnok175 : FnOk 175 Tryz.f175 := ⟨Tryz.func175, by kernel_rfl, by kernel_rfl⟩
theorem fnok176 : FnOk 176 Tryz.f176 := ⟨Tryz.func176, by kernel_rfl, by kernel_rfl⟩
theorem fnok179 : FnOk 179 Tryz.f179 := ⟨Tryz.func179, by kernel_rfl, by kernel_rfl⟩
theorem fnok183 : FnOk 183 Tryz.f183 := ⟨Tryz.func183, by kernel_rfl, by kernel_rfl⟩
theorem fnok213 : FnOk 213 Tryz.f213 := ⟨Tryz.func213, by kernel_rfl, by kernel_rfl⟩
theorem fnok228 : FnOk 228 Tryz.f228 := ⟨Tryz.func228, by kernel_rfl, by kernel_rfl⟩
theorem fnok232 : FnOk 232 Tryz.f232 := ⟨Tryz.func232, by kernel_rfl, by kernel_rfl⟩
theorem fnok238 : FnOk 238 Tryz.f238 := ⟨Tryz.func238, by kernel_rfl, by kernel_rfl⟩
theorem fnok239 : FnOk 239 Tryz.f239 := ⟨Tryz.func239, by kernel_rfl, by kernel_rfl⟩
theorem fnok240 : FnOk 240 Tryz.f240 := ⟨Tryz.func240, by kernel_rfl, by kernel_rfl⟩
theorem fnok241 : FnOk 241 Tryz.f241 := ⟨Tryz.func241, by kernel_rfl, by kernel_rfl⟩
theorem fnok243 : FnOk 243 Tryz.f243 := ⟨Tryz.func243, by kernel_rfl, by kernel_rfl⟩
theorem fnok244 : FnOk 244 Tryz.f244 := ⟨Tryz.func244, by kernel_rfl, by kernel_rfl⟩
theorem fnok245 : FnOk 245 Tryz.f245 := ⟨Tryz.func245, by kernel_rfl, by kernel_rfl⟩
theorem fnok246 : FnOk 246 Tryz.f246 := ⟨Tryz.func246, by kernel_rfl, by kernel_rfl⟩
theorem fnok247 : FnOk 247 Tryz.f247 := ⟨Tryz.func247, by kernel_rfl, by kernel_rfl⟩
theorem fnok248 : FnOk 248 Tryz.f248 := ⟨Tryz.func248, by kernel_rfl, by kernel_rfl⟩
theorem fnok249 : FnOk 249 Tryz.f249 := ⟨Tryz.func249, by kernel_rfl, by kernel_rfl⟩
theorem fnok250 : FnOk 250 Tryz.f250 := ⟨Tryz.func250, by kernel_rfl, by kernel_rfl⟩
theorem fnok251 : FnOk 251 Tryz.f251 := ⟨Tryz.func251, by kernel_rfl, by kernel_rfl⟩
theorem parok5 : ParOk 5 Tryz.f5 := Nat.le_of_ble_eq_true (by kernel_rfl)
theorem parok13 : ParOk 13 Tryz.f13 := Nat.le_of_ble_eq_true (by kernel_rfl)
theorem parok14 : ParOk 14 Tryz.f14 := Nat.le_of_ble_eq_true (by kernel_rfl)
theorem parok15 : ParOk 15 Tryz.f15 := Nat.le_of_ble_eq_true (by kernel_rfl)
theorem parok16 : ParOk 16 Tryz.f16 := Nat.le_of_ble_eq_true (by kernel_rfl)
theorem parok17 : ParOk 17 Tryz.f17 := Nat.le_of_ble_eq_true (by kernel_rfl)
theorem parok22 : ParOk 22 Tryz.f22 := Nat.le_of_ble_eq_true (by kernel_rfl)
theorem parok27 : ParOk 27 Tryz.f27 := Nat.le_of_ble_eq_true (by kernel_rfl)
theorem parok28 : ParOk 28 Tryz.f28 := Nat.le_of_ble_eq_true (by kernel_rfl)
theorem parok29 : ParOk 29 Tryz.f29 := Nat.le_of_ble_eq_true (by kernel_rfl)
theorem parok30 : ParOk 30 Tryz.f30 := Nat.le_of_ble_eq_true (by kernel_rfl)
theorem parok34 : ParOk 34 Tryz.f34 := Nat.le_of_ble_eq_true (by kernel_rfl)
theorem parok37 : ParOk 37 Tryz.f37 := Nat.le_of_ble_eq_true (by kernel_rfl)
theorem parok51 : ParOk 51 Tryz.f51 := Nat.le_of_ble_eq_true (by kernel_rfl)
theorem parok65 : ParOk 65 Tryz.f65 := Nat.le_of_ble_eq_true (by kernel_rfl)
theorem parok80 : ParOk 80 Tryz.f80 := Nat.le_of_ble_eq_true (by kernel_rfl)
theorem parok87 : ParOk 87 Tryz.f87 := Nat.le_of_ble_eq_true (by kernel_rfl)
theorem parok89 : ParOk 89 Tryz.f89 := Nat.le_of_ble_eq_true (by kernel_rfl)
theorem parok108 : ParOk 108 Tryz.f108 := Nat.le_of_ble_eq_true (by kernel_rfl)
theorem parok110 : ParOk 110 Tryz.f110 := Nat.le_of_ble_eq_true (by kernel_rfl)
theorem parok113 : ParOk 113 Tryz.f113 := Nat.le_of_ble_eq_true (by kernel_rfl)
theorem parok121 : ParOk 121 Tryz.f121 := Nat.le_of_ble_eq_true (by kernel_rfl)
theorem parok126 : ParOk 126 Tryz.f126 := Nat.le_of_ble_eq_true (by kernel_rfl)
theorem parok128 : ParOk 128 Tryz.f128 := Nat.le_of_ble_eq_true (by kernel_rfl)
theorem parok134 : ParOk 134 Tryz.f134 := Nat.le_of_ble_eq_true (by kernel_rfl)
theorem parok135 : ParOk 135 Tryz.f135 := Nat.le_of_ble_eq_true (by kernel_rfl)
theorem parok136 : ParOk 136 Tryz.f136 := Nat.le_of_ble_eq_true (by kernel_rfl)
theorem parok137 : ParOk 137 Tryz.f137 := Nat.le_of_ble_eq_true (by kernel_rfl)
theorem parok138 : ParOk 138 Tryz.f138 := Nat.le_of_ble_eq_true (by kernel_rfl)
theorem parok139 : ParOk 139 Tryz.f139 := Nat.le_of_ble_eq_true (by kernel_rfl)
theorem parok153 : ParOk 153 Tryz.f153 := Nat.le_of_ble_eq_true (by kernel_rfl)
theorem parok157 : ParOk 157 Tryz.f157 := Nat.le_of_ble_eq_true (by kernel_rfl)
theorem parok162 : ParOk 162 Tryz.f162 := Nat.le_of_ble_eq_true (by kernel_rfl)
theorem parok163 : ParOk 163 Tryz.f163 := Nat.le_of_ble_eq_true (by kernel_rfl)
theorem parok164 : ParOk 164 Tryz.f164 := Nat.le_of_ble_eq_true (by kernel_rfl)
theorem parok166 : ParOk 166 Tryz.f166 := Nat.le_of_ble_eq_true (by kernel_rfl)
theorem parok171 : ParOk 171 Tryz.f171 := Nat.le_of_ble_eq_true (by kernel_rfl)
theorem parok174 : ParOk 174 Tryz.f174 := Nat.le_of_ble_eq_true (by kernel_rfl)
theorem parok175 : ParOk 175 Tryz.f175 := Nat.le_of_ble_eq_true (by kernel_rfl)
theorem parok176 : ParOk 176 Tryz.f176 := Nat.le_of_ble_eq_true (by kernel_rfl)
theorem parok179 : ParOk 179 Tryz.f179 := Nat.le_of_ble_eq_true (by kernel_rfl)
theorem parok183 : ParOk 183 Tryz.f183 := Nat.le_of_ble_eq_true (by kernel_rfl)
theorem parok213 : ParOk 213 Tryz.f213 := Nat.le_of_ble_eq_true (by kernel_rfl)
theorem parok228 : ParOk 228 Tryz.f228 := Nat.le_of_ble_eq_true (by kernel_rfl)
theorem parok232 : ParOk 232 Tryz.f232 := Nat.le_of_ble_eq_true (by kernel_rfl)
theorem parok238 : ParOk 238 Tryz.f238 := Nat.le_of_ble_eq_true (by kernel_rfl)
theorem parok239 : ParOk 239 Tryz.f239 := Nat.le_of_ble_eq_true (by kernel_rfl)
theorem parok240 : ParOk 240 Tryz.f240 := Nat.le_of_ble_eq_true (by kernel_rfl)
theorem parok241 : ParOk 241 Tryz.f241 := Nat.le_of_ble_eq_true (by kernel_rfl)
theorem parok243 : ParOk 243 Tryz.f243 := Nat.le_of_ble_eq_true (by kernel_rfl)
theorem parok244 : ParOk 244 Tryz.f244 := Nat.le_of_ble_eq_true (by kernel_rfl)
theorem parok245 : ParOk 245 Tryz.f245 := Nat.le_of_ble_eq_true (by kernel_rfl)
theorem parok246 : ParOk 246 Tryz.f246 := Nat.le_of_ble_eq_true (by kernel_rfl)
theorem parok247 : ParOk 247 Tryz.f247 := Nat.le_of_ble_eq_true (by kernel_rfl)
theorem parok248 : ParOk 248 Tryz.f248 := Nat.le_of_ble_eq_true (by kernel_rfl)
theorem parok249 : ParOk 249 Tryz.f249 := Nat.le_of_ble_eq_true (by kernel_rfl)
theorem parok250 : ParOk 250 Tryz.f250 := Nat.le_of_ble_eq_true (by kernel_rfl)
theorem parok251 : ParOk 251 Tryz.f251 := Nat.le_of_ble_eq_true (by kernel_rfl)
theorem fns_ok : ∀ f fn, look fns f = some fn → FnOk f fn := look_all (Q := FnOk) (l := fns) (all_cons fnok5 (all_cons fnok13 (all_cons fnok14 (all_cons fnok15 (all_cons fnok16 (all_cons fnok17 (all_cons fnok22 (all_cons fnok27 (all_cons fnok28 (all_cons fnok29 (all_cons fnok30 (all_cons fnok34 (all_cons fnok37 (all_cons fnok51 (all_cons fnok65 (all_cons fnok80 (all_cons fnok87 (all_cons fnok89 (all_cons fnok108 (all_cons fnok110 (all_cons fnok113 (all_cons fnok121 (all_cons fnok126 (all_cons fnok128 (all_cons fnok134 (all_cons fnok135 (all_cons fnok136 (all_cons fnok137 (all_cons fnok138 (all_cons fnok139 (all_cons fnok153 (all_cons fnok157 (all_cons fnok162 (all_cons fnok163 (all_cons fnok164 (all_cons fnok166 (all_cons fnok171 (all_cons fnok174 (all_cons fnok175 (all_cons fnok176 (all_cons fnok179 (all_cons fnok183 (all_cons fnok213 (all_cons fnok228 (all_cons fnok232 (all_cons fnok238 (all_cons fnok239 (all_cons fnok240 (all_cons fnok241 (all_cons fnok243 (all_cons fnok244 (all_cons fnok245 (all_cons fnok246 (all_cons fnok247 (all_cons fnok248 (all_cons fnok249 (all_cons fnok250 (all_cons fnok251 (all_cons fnok26 (all_cons fnok52 (all_cons fnok53 (all_cons fnok61 (all_cons fnok88 (all_cons fnok90 (all_cons fnok91 (all_cons fnok123 (all_cons fnok125 (all_cons fnok132 (all_cons fnok133 (all_cons fnok140 (all_cons fnok141 (all_cons fnok142 (all_cons fnok143 (all_cons fnok172 (all_cons fnok180 (all_cons fnok181 (all_cons fnok182 (all_cons fnok214 (all_cons fnok229 (all_cons fnok231 (all_cons fnok233 (all_cons fnok236 (all_cons fnok237 (all_cons fnok242 all_nil))))))))))))))))))))))))))))))))))))))))))))))))))))))))))))))))))))))))))))))))))))
theorem ctx_ok : CtxOk Tryz.prog CT := ⟨tis_ok, fns_ok, by kernel_rfl, inv_keeps⟩
def PtOk (i : Nat) (ts : List Ty) : Prop := ∀ fn, look fns (CT.fid i) = some fn → ts.length ≤ fn.ntmps
theorem pt_ok {i : Nat} {ts : List Ty} {f : Func} (e : look fns (CT.fid i) = some f) (h : ts.length ≤ f.ntmps) : PtOk i ts := fun fn hf => by rw [e] at hf; cases hf; exact h
theorem ptok5 : PtOk 5 ((look ptsL 5).getD []) := pt_ok (f := Tryz.f5) (by kernel_rfl) parok5
theorem ptok13 : PtOk 13 ((look ptsL 13).getD []) := pt_ok (f := Tryz.f13) (by kernel_rfl) parok13
theorem ptok14 : PtOk 14 ((look ptsL 14).getD []) := pt_ok (f := Tryz.f14) (by kernel_rfl) parok14
theorem ptok15 : PtOk 15 ((look ptsL 15).getD []) := pt_ok (f := Tryz.f15) (by kernel_rfl) parok15
theorem ptok16 : PtOk 16 ((look ptsL 16).getD []) := pt_ok (f := Tryz.f16) (by kernel_rfl) parok16
theorem ptok17 : PtOk 17 ((look ptsL 17).getD []) := pt_ok (f := Tryz.f17) (by kernel_rfl) parok17
theorem ptok22 : PtOk 22 ((look ptsL 22).getD []) := pt_ok (f := Tryz.f22) (by kernel_rfl) parok22
theorem ptok27 : PtOk 27 ((look ptsL 27).getD []) := pt_ok (f := Tryz.f27) (by kernel_rfl) parok27
theorem ptok28 : PtOk 28 ((look ptsL 28).getD []) := pt_ok (f := Tryz.f28) (by kernel_rfl) parok28
theorem ptok29 : PtOk 29 ((look ptsL 29).getD []) := pt_ok (f := Tryz.f29) (by kernel_rfl) parok29
theorem ptok30 : PtOk 30 ((look ptsL 30).getD []) := pt_ok (f := Tryz.f30) (by kernel_rfl) parok30
theorem ptok34 : PtOk 34 ((look ptsL 34).getD []) := pt_ok (f := Tryz.f34) (by kernel_rfl) parok34
theorem ptok37 : PtOk 37 ((look ptsL 37).getD []) := pt_ok (f := Tryz.f37) (by kernel_rfl) parok37
theorem ptok51 : PtOk 51 ((look ptsL 51).getD []) := pt_ok (f := Tryz.f51) (by kernel_rfl) parok51
theorem ptok65 : PtOk 65 ((look ptsL 65).getD []) := pt_ok (f := Tryz.f65) (by kernel_rfl) parok65
theorem ptok80 : PtOk 80 ((look ptsL 80).getD []) := pt_ok (f := Tryz.f80) (by kernel_rfl) parok80
theorem ptok87 : PtOk 87 ((look ptsL 87).getD []) := pt_ok (f := Tryz.f87) (by kernel_rfl) parok87
theorem ptok89 : PtOk 89 ((look ptsL 89).getD []) := pt_ok (f := Tryz.f89) (by kernel_rfl) parok89
theorem ptok108 : PtOk 108 ((look ptsL 108).getD []) := pt_ok (f := Tryz.f108) (by kernel_rfl) parok108
theorem ptok110 : PtOk 110 ((look ptsL 110).getD []) := pt_ok (f := Tryz.f110) (by kernel_rfl) parok110
theorem ptok113 : PtOk 113 ((look ptsL 113).getD []) := pt_ok (f := Tryz.f113) (by kernel_rfl) parok113
theorem ptok121 : PtOk 121 ((look ptsL 121).getD []) := pt_ok (f := Tryz.f121) (by kernel_rfl) parok121
theorem ptok126 : PtOk 126 ((look ptsL 126).getD []) := pt_ok (f := Tryz.f126) (by kernel_rfl) parok126
theorem ptok128 : PtOk 128 ((look ptsL 128).getD []) := pt_ok (f := Tryz.f128) (by kernel_rfl) parok128
theorem ptok134 : PtOk 134 ((look ptsL 134).getD []) := pt_ok (f := Tryz.f134) (by kernel_rfl) parok134
theorem ptok135 : PtOk 135 ((look ptsL 135).getD []) := pt_ok (f := Tryz.f135) (by kernel_rfl) parok135
theorem ptok136 : PtOk 136 ((look ptsL 136).getD []) := pt_ok (f := Tryz.f136) (by kernel_rfl) parok136
theorem ptok137 : PtOk 137 ((look ptsL 137).getD []) := pt_ok (f := Tryz.f137) (by kernel_rfl) parok137
theorem ptok138 : PtOk 138 ((look ptsL 138).getD []) := pt_ok (f := Tryz.f138) (by kernel_rfl) parok138
theorem ptok139 : PtOk 139 ((look ptsL 139).getD []) := pt_ok (f := Tryz.f139) (by kernel_rfl) parok139
theorem ptok153 : PtOk 153 ((look ptsL 153).getD []) := pt_ok (f := Tryz.f153) (by kernel_rfl) parok153
theorem ptok157 : PtOk 157 ((look ptsL 157).getD []) := pt_ok (f := Tryz.f157) (by kernel_rfl) parok157
theorem ptok162 : PtOk 162 ((look ptsL 162).getD []) := pt_ok (f := Tryz.f162) (by kernel_rfl) parok162
theorem ptok163 : PtOk 163 ((look ptsL 163).getD []) := pt_ok (f := Tryz.f163) (by kernel_rfl) parok163
theorem ptok164 : PtOk 164 ((look ptsL 164).getD []) := pt_ok (f := Tryz.f164) (by kernel_rfl) parok164
theorem ptok166 : PtOk 166 ((look ptsL 166).getD []) := pt_ok (f := Tryz.f166) (by kernel_rfl) parok166
theorem ptok171 : PtOk 171 ((look ptsL 171).getD []) := pt_ok (f := Tryz.f171) (by kernel_rfl) parok171
theorem ptok174 : PtOk 174 ((look ptsL 174).getD []) := pt_ok (f := Tryz.f174) (by kernel_rfl) parok174
theorem ptok175 : PtOk 175 ((look ptsL 175).getD []) := pt_ok (f := Tryz.f175) (by kernel_rfl) parok175
theorem ptok176 : PtOk 176 ((look ptsL 176).getD []) := pt_ok (f := Tryz.f176) (by kernel_rfl) parok176
theorem ptok179 : PtOk 179 ((look ptsL 179).getD []) := pt_ok (f := Tryz.f179) (by kernel_rfl) parok179
theorem ptok183 : PtOk 183 ((look ptsL 183).getD []) := pt_ok (f := Tryz.f183) (by kernel_rfl) parok183
theorem ptok213 : PtOk 213 ((look ptsL 213).getD []) := pt_ok (f := Tryz.f213) (by kernel_rfl) parok213
theorem ptok228 : PtOk 228 ((look ptsL 228).getD []) := pt_ok (f := Tryz.f228) (by kernel_rfl) parok228
theorem ptok232 : PtOk 232 ((look ptsL 232).getD []) := pt_ok (f := Tryz.f232) (by kernel_rfl) parok232
theorem ptok238 : PtOk 238 ((look ptsL 238).getD []) := pt_ok (f := Tryz.f238) (by kernel_rfl) parok238
theorem ptok239 : PtOk 239 ((look ptsL 239).getD []) := pt_ok (f := Tryz.f239) (by kernel_rfl) parok239
theorem ptok240 : PtOk 240 ((look ptsL 240).getD []) := pt_ok (f := Tryz.f240) (by kernel_rfl) parok240
theorem ptok241 : PtOk 241 ((look ptsL 241).getD []) := pt_ok (f := Tryz.f241) (by kernel_rfl) parok241
theorem ptok243 : PtOk 243 ((look ptsL 243).getD []) := pt_ok (f := Tryz.f243) (by kernel_rfl) parok243
theorem ptok244 : PtOk 244 ((look ptsL 244).getD []) := pt_ok (f := Tryz.f244) (by kernel_rfl) parok244
theorem ptok245 : PtOk 245 ((look ptsL 245).getD []) := pt_ok (f := Tryz.f245) (by kernel_rfl) parok245
theorem ptok246 : PtOk 246 ((look ptsL 246).getD []) := pt_ok (f := Tryz.f246) (by kernel_rfl) parok246
theorem ptok247 : PtOk 247 ((look ptsL 247).getD []) := pt_ok (f := Tryz.f247) (by kernel_rfl) parok247
theorem ptok248 : PtOk 248 ((look ptsL 248).getD []) := pt_ok (f := Tryz.f248) (by kernel_rfl) parok248
theorem ptok249 : PtOk 249 ((look ptsL 249).getD []) := pt_ok (f := Tryz.f249) (by kernel_rfl) parok249
theorem ptok250 : PtOk 250 ((look ptsL 250).getD []) := pt_ok (f := Tryz.f250) (by kernel_rfl) parok250
theorem ptok251 : PtOk 251 ((look ptsL 251).getD []) := pt_ok (f := Tryz.f251) (by kernel_rfl) parok251
theorem pts_all : ∀ i ts, look ptsL i = some ts → PtOk i ts := look_all (Q := PtOk) (l := ptsL) (all_cons ptok5 (all_cons ptok13 (all_cons ptok14 (all_cons ptok15 (all_cons ptok16 (all_cons ptok17 (all_cons ptok22 (all_cons ptok27 (all_cons ptok28 (all_cons ptok29 (all_cons ptok30 (all_cons ptok34 (all_cons ptok37 (all_cons ptok51 (all_cons ptok65 (all_cons ptok80 (all_cons ptok87 (all_cons ptok89 (all_cons ptok108 (all_cons ptok110 (all_cons ptok113 (all_cons ptok121 (all_cons ptok126 (all_cons ptok128 (all_cons ptok134 (all_cons ptok135 (all_cons ptok136 (all_cons ptok137 (all_cons ptok138 (all_cons ptok139 (all_cons ptok153 (all_cons ptok157 (all_cons ptok162 (all_cons ptok163 (all_cons ptok164 (all_cons ptok166 (all_cons ptok171 (all_cons ptok174 (all_cons ptok175 (all_cons ptok176 (all_cons ptok179 (all_cons ptok183 (all_cons ptok213 (all_cons ptok228 (all_cons ptok232 (all_cons ptok238 (all_cons ptok239 (all_cons ptok240 (all_cons ptok241 (all_cons ptok243 (all_cons ptok244 (all_cons ptok245 (all_cons ptok246 (all_cons ptok247 (all_cons ptok248 (all_cons ptok249 (all_cons ptok250 (all_cons ptok251 all_nil))))))))))))))))))))))))))))))))))))))))))))))))))))))))))
theorem pars_ok : ∀ i fn, CT.fn (CT.fid i) = some fn → (CT.pts i).length ≤ fn.ntmps := fun i fn h => by
  show ((look ptsL i).getD []).length ≤ _
  cases hp : look ptsL i with
  | none => exact Nat.zero_le _
  | some ts => exact pts_all i ts hp fn h
theorem sound (hE : ExtOk Tryz.prog CT) : ∀ k, SpecOk Tryz.prog (sem CT k) ∧ StageOk Tryz.prog (sem CT k) := sem_sound ctx_ok hE pars_ok
theorem ext_ok : ExtOk Tryz.prog CT := ext_of (l := extL) rfl (allE_cons (ext_at (H.named_ok)) (allE_cons (ext_at (cut_ok inv_max)) (allE_cons (ext_at (Q.div_ok inv_max)) (allE_cons (ext_at (Q.add_ok inv_max)) (allE_cons (ext_at (Q.trim_ok inv_max)) (allE_cons (ext_at (Q.pow_ok inv_max)) (allE_cons (ext_at (Q.of_ok inv_max)) (allE_cons (ext_at (Q.mul_ok inv_max)) (allE_cons (ext_at (Q.gcd_ok inv_max)) allE_nil)))))))))
theorem spec_ok (k : Nat) : SpecP Tryz.prog (sem CT k) := spec_plain ctx_ok (sound ext_ok k).1
end Go.Proofs.YtpdfjgooaaailaaGreatDoor.K
set_option maxRecDepth 100000
namespace Go.Proofs.YtpdfjgooaaailaaGreatDoor.K
open Go
theorem w14_ParseSigns_eq (x0 : Int) (x1 : TB9) : w14_ParseSigns x0 x1 = (parse_Sign x0).bind fun v1 => (r14_Sign x0).bind fun v2 => cond (decide (v1 = v2)) ((parse_Named x1).bind fun v3 => (r13_Named x1).bind fun v4 => cond (v3 == v4) ((w14_known).bind fun v5 => some v5) (some false)) (some false) := (top_call ..).trans (by kernel_rfl)
theorem parse_Sign_eq (x0 : Int) : parse_Sign x0 = parse_Sign_1 x0 := (top_call ..).trans (by kernel_rfl)
theorem parse_Sign_1_eq (a1 : Int) : parse_Sign_1 a1 = cond (decide (a1 < 0)) (parse_Sign_2 a1 true ([] : TB9) ([43] : TB9) ([45] : TB9) ([42] : TB9) ([47] : TB9) ([94] : TB9) ([38] : TB9) ([61] : TB9) ([60,62] : TB9) ([60] : TB9) ([60,61] : TB9) ([62] : TB9) ([62,61] : TB9) ([45] : TB9) ([37] : TB9)) (parse_Sign_2 a1 (decide (a1 ≥ 15)) ([] : TB9) ([43] : TB9) ([45] : TB9) ([42] : TB9) ([47] : TB9) ([94] : TB9) ([38] : TB9) ([61] : TB9) ([60,62] : TB9) ([60] : TB9) ([60,61] : TB9) ([62] : TB9) ([62,61] : TB9) ([45] : TB9) ([37] : TB9)) := (top_stage ..).trans (by kernel_rfl)
theorem parse_Sign_2_eq (a1 : Int) (a2 : Bool) (a3 a4 a5 a6 a7 a8 a9 a10 a11 a12 a13 a14 a15 a16 a17 : TB9) : parse_Sign_2 a1 a2 a3 a4 a5 a6 a7 a8 a9 a10 a11 a12 a13 a14 a15 a16 a17 = cond a2 (some ([] : TB9)) (cond (decide (0 ≤ a1) && decide (a1 < (15 : Int))) (some (([a3,a4,a5,a6,a7,a8,a9,a10,a11,a12,a13,a14,a15,a16,a17] : List (TB9)).getD a1.toNat [])) none) := (top_stage ..).trans (by kernel_rfl)
theorem r14_Sign_eq (x0 : Int) : r14_Sign x0 = cond (decide (x0 < 1)) (r14_Sign_1 x0 true) (r14_Sign_1 x0 (decide (x0 > 14))) := (top_call ..).trans (by kernel_rfl)
theorem r14_Sign_1_eq (a1 : Int) (a2 : Bool) : r14_Sign_1 a1 a2 = cond a2 (some ([] : TB9)) ((r14_Signs).bind fun v1 => cond (decide (0 ≤ a1) && decide (a1 < (v1.length : Int))) (some (v1.getD a1.toNat [])) none) := (top_stage ..).trans (by kernel_rfl)
theorem r13_Named_eq (x0 : TB9) : r13_Named x0 = cond (decide ((x0.length : Int) < 1)) (r13_Named_1 x0 true) (cond (decide ((x0.length : Int) > 12)) (r13_Named_1 x0 true) ((r10_Letters x0).bind fun v1 => r13_Named_1 x0 (decide (v1 = 0)))) := (top_call ..).trans (by kernel_rfl)
theorem r13_Named_1_eq (a1 : TB9) (a2 : Bool) : r13_Named_1 a1 a2 = cond a2 (some false) (r13_Named_2 a1 0) := (top_stage ..).trans (by kernel_rfl)
theorem r13_Named_2_eq (a1 : TB9) (a2 : Int) : r13_Named_2 a1 a2 = cond (decide (a2 < (a1.length : Int))) (cond (decide (0 ≤ a2) && decide (a2 < (a1.length : Int))) ((r11_Digit ((a1.getD a2.toNat 0).toNat : Int)).bind fun v1 => cond (!v1) (cond (decide (0 ≤ a2) && decide (a2 < (a1.length : Int))) (cond (decide (((a1.getD a2.toNat 0).toNat : Int) < 65)) (r13_Named_3 a1 a2 true) (cond (decide (0 ≤ a2) && decide (a2 < (a1.length : Int))) (r13_Named_3 a1 a2 (decide (((a1.getD a2.toNat 0).toNat : Int) > 90))) none)) none) (r13_Named_3 a1 a2 false)) none) (some true) := (top_stage ..).trans (by kernel_rfl)
theorem r13_Named_3_eq (a1 : TB9) (a2 : Int) (a3 : Bool) : r13_Named_3 a1 a2 a3 = cond a3 (some false) (r13_Named_2 a1 (IntKind.i64.wrap (a2 + 1))) := (top_stage ..).trans (by kernel_rfl)
theorem r14_Signs_eq : r14_Signs = some ([([] : TB9),([43] : TB9),([45] : TB9),([42] : TB9),([47] : TB9),([94] : TB9),([38] : TB9),([61] : TB9),([60,62] : TB9),([60] : TB9),([60,61] : TB9),([62] : TB9),([62,61] : TB9),([45] : TB9),([37] : TB9)] : List (TB9)) := (top_call ..).trans (by kernel_rfl)
theorem r10_Letters_eq (x0 : TB9) : r10_Letters x0 = r10_Letters_1 x0 0 := (top_call ..).trans (by kernel_rfl)
theorem r10_Letters_1_eq (a1 : TB9) (a2 : Int) : r10_Letters_1 a1 a2 = cond (decide (a2 < (a1.length : Int))) (cond (decide (0 ≤ a2) && decide (a2 < (a1.length : Int))) (cond (decide (((a1.getD a2.toNat 0).toNat : Int) ≥ 65)) (cond (decide (0 ≤ a2) && decide (a2 < (a1.length : Int))) (r10_Letters_2 a1 a2 (decide (((a1.getD a2.toNat 0).toNat : Int) ≤ 90))) none) (r10_Letters_2 a1 a2 false)) none) (r10_Letters_2 a1 a2 false) := (top_stage ..).trans (by kernel_rfl)
theorem r10_Letters_2_eq (a1 : TB9) (a2 : Int) (a3 : Bool) : r10_Letters_2 a1 a2 a3 = cond a3 (r10_Letters_1 a1 (IntKind.i64.wrap (a2 + 1))) (some a2) := (top_stage ..).trans (by kernel_rfl)
theorem r11_Digit_eq (x0 : Int) : r11_Digit x0 = cond (decide (x0 ≥ 48)) (some (decide (x0 ≤ 57))) (some false) := (top_call ..).trans (by kernel_rfl)
end Go.Proofs.YtpdfjgooaaailaaGreatDoor.K
namespace Go.Proofs.YtpdfjgooaaailaaGreatDoor.F
open Go Go.Proofs.YtpdfjgooaaailaaGreatDoor.K
theorem wS {i : Nat} (h : i + 1 ≤ 9223372036854775807) : IntKind.i64.wrap ((i : Int) + 1) = ((i + 1 : Nat) : Int) := wrap64 (by omega) (by omega)
theorem getD_drop {s : List UInt8} {i : Nat} (h : i < s.length) : s.drop i = s.getD i 0 :: s.drop (i + 1) := by
  rw [List.drop_eq_getElem_cons h, List.getD_eq_getElem?_getD, List.getElem?_eq_getElem h]; rfl
theorem all_drop {p : UInt8 → Bool} {s : List UInt8} {i : Nat} (h : i < s.length) : (s.drop i).all p = (p (s.getD i 0) && (s.drop (i + 1)).all p) := by rw [getD_drop h, List.all_cons]
def lt (b : UInt8) : Bool := (decide (65 ≤ b.toNat) && decide (b.toNat ≤ 90)) || (decide (97 ≤ b.toNat) && decide (b.toNat ≤ 122))
def dgt (b : UInt8) : Bool := decide (48 ≤ b.toNat) && decide (b.toNat ≤ 57)
def cap (b : UInt8) : Bool := decide (65 ≤ b.toNat) && decide (b.toNat ≤ 90)
theorem ge_d (b : UInt8) (n : Nat) : decide ((b.toNat : Int) ≥ (n : Int)) = decide (n ≤ b.toNat) := decide_eq_decide.2 (by omega)
theorem le_d (b : UInt8) (n : Nat) : decide ((b.toNat : Int) ≤ (n : Int)) = decide (b.toNat ≤ n) := decide_eq_decide.2 (by omega)
theorem yDgt (b : UInt8) : r11_Digit (b.toNat : Int) = some (dgt b) := by
  rw [r11_Digit_eq, dgt, show decide ((b.toNat : Int) ≥ 48) = _ from ge_d b 48, show decide ((b.toNat : Int) ≤ 57) = _ from le_d b 57]
  cases decide (48 ≤ b.toNat) <;> rfl
def up (b : UInt8) : UInt8 := if 97 ≤ b.toNat ∧ b.toNat ≤ 122 then UInt8.ofNat (b.toNat - 32) else b
def lead (p : UInt8 → Bool) (s : List UInt8) : Nat := (s.takeWhile p).length
theorem lead_drop {p : UInt8 → Bool} {s : List UInt8} {i : Nat} (h : i < s.length) : lead p (s.drop i) = if p (s.getD i 0) = true then lead p (s.drop (i + 1)) + 1 else 0 := by
  unfold lead
  rw [getD_drop h, List.takeWhile_cons]
  split <;> simp
theorem yLetters1 (s : List UInt8) (hs : s.length ≤ 1000000) : ∀ (m i : Nat), i + m = s.length → r10_Letters_1 s (i : Int) = some ((i + lead cap (s.drop i) : Nat) : Int)
  | m, i, h => by
    have stop : lead cap (s.drop i) = 0 → r10_Letters_2 s (i : Int) false = some ((i + lead cap (s.drop i) : Nat) : Int) := by
      intro h0
      rw [r10_Letters_2_eq, cond_false, h0]; rfl
    rw [r10_Letters_1_eq]
    match m with
    | 0 =>
      rw [cF (decide_eq_false (by omega))]
      exact stop (by rw [List.drop_of_length_le (by omega)]; rfl)
    | m + 1 =>
      have hi : i < s.length := by omega
      have hl := lead_drop (p := cap) hi
      have next : lead cap (s.drop i) = lead cap (s.drop (i + 1)) + 1 → r10_Letters_2 s (i : Int) true = some ((i + lead cap (s.drop i) : Nat) : Int) := by
        intro h1
        rw [r10_Letters_2_eq, cond_true, wS (by omega), yLetters1 s hs m (i + 1) (by omega), h1]
        congr 2; omega
      rw [cT (decide_eq_true (by omega)), cT (ix hi), cT (ix hi), Int.toNat_natCast, show decide (((s.getD i 0).toNat : Int) ≥ 65) = _ from ge_d _ 65, show decide (((s.getD i 0).toNat : Int) ≤ 90) = _ from le_d _ 90]
      unfold cap at hl
      cases h1 : decide (65 ≤ (s.getD i 0).toNat) with
      | false =>
        rw [h1] at hl
        rw [cond_false]
        exact stop (by unfold cap; rw [hl]; rfl)
      | true =>
        rw [cond_true]
        cases h2 : decide ((s.getD i 0).toNat ≤ 90) with
        | false =>
          rw [h1, h2] at hl
          exact stop (by unfold cap; rw [hl]; rfl)
        | true =>
          rw [h1, h2] at hl
          exact next (by unfold cap; rw [hl]; rfl)
theorem yLetters (s : List UInt8) (hs : s.length ≤ 1000000) : r10_Letters s = some ((lead cap s : Nat) : Int) := by
  rw [r10_Letters_eq]
  have := yLetters1 s hs s.length 0 (Nat.zero_add _)
  simp only [List.drop_zero, Nat.zero_add] at this
  exact this
end Go.Proofs.YtpdfjgooaaailaaGreatDoor.F
namespace Go.Proofs.YtpdfjgooaaailaaGreatDoor.S
open Go Go.Proofs.YtpdfjgooaaailaaGreatDoor.K
open Go.Proofs.YtpdfjgooaaailaaGreatDoor.F (cap dgt all_drop wS)
theorem ix {i n : Nat} (h : i < n) : (decide (0 ≤ (i : Int)) && decide ((i : Int) < (n : Int))) = true := by simp; omega
def cd (b : UInt8) : Bool := cap b || dgt b
def nmV (s : List UInt8) : Bool := (s.all cd && cap (s.getD 0 0)) && (!decide (s = []) && decide (s.length ≤ 12))
theorem yLetters (s : List UInt8) (hs : s.length ≤ 1000) : ∀ (m i : Nat), i + m = s.length → ∃ k : Int, r10_Letters_1 s (i : Int) = some k ∧ (i : Int) ≤ k
  | 0, i, h => ⟨i, by rw [r10_Letters_1_eq, cF (decide_eq_false (by omega)), r10_Letters_2_eq]; rfl, by omega⟩
  | m + 1, i, h => by
    have hi : i < s.length := by omega
    obtain ⟨k, hk, hle⟩ := yLetters s hs m (i + 1) (by omega)
    have l2 : ∀ q, r10_Letters_2 s (i : Int) q = some (cond q k (i : Int)) := fun q => by
      rw [r10_Letters_2_eq, wS (by omega), hk]; cases q <;> rfl
    rw [r10_Letters_1_eq, cT (decide_eq_true (by omega)), cT (ix hi), cT (ix hi), l2, l2]
    cases decide (((s.getD (i : Int).toNat 0).toNat : Int) ≥ 65) <;> cases decide (((s.getD (i : Int).toNat 0).toNat : Int) ≤ 90)
    · exact ⟨_, rfl, Int.le_refl _⟩
    · exact ⟨_, rfl, Int.le_refl _⟩
    · exact ⟨_, rfl, Int.le_refl _⟩
    · exact ⟨_, rfl, by simp only [cond_true]; omega⟩
theorem yNm2 (s : List UInt8) (hs : s.length ≤ 1000) : ∀ (m i : Nat), i + m = s.length → r13_Named_2 s (i : Int) = some ((s.drop i).all cd)
  | 0, i, h => by rw [r13_Named_2_eq, cF (decide_eq_false (by omega)), List.drop_of_length_le (by omega)]; rfl
  | m + 1, i, h => by
    have hi : i < s.length := by omega
    have n3 : ∀ q, r13_Named_3 s (i : Int) q = some (!q && (s.drop (i + 1)).all cd) := fun q => by
      rw [r13_Named_3_eq, wS (by omega), yNm2 s hs m (i + 1) (by omega)]; cases q <;> rfl
    rw [r13_Named_2_eq, cT (decide_eq_true (by omega)), cT (ix hi), cT (ix hi), cT (ix hi), Int.toNat_natCast, Go.Proofs.YtpdfjgooaaailaaGreatDoor.F.yDgt, Option.bind_some, n3, n3, n3, all_drop hi]
    unfold cd cap
    generalize dgt (s.getD i 0) = d
    generalize (s.getD i 0).toNat = c
    generalize (s.drop (i + 1)).all _ = r
    cases d
    · rw [Bool.not_false, cond_true, Bool.or_false]
      by_cases c1 : (c : Int) < 65
      · rw [cT (decide_eq_true c1), decide_eq_false (show ¬ 65 ≤ c by omega)]; simp
      · rw [cF (decide_eq_false c1), decide_eq_true (show 65 ≤ c by omega)]
        by_cases c2 : (c : Int) > 90
        · rw [decide_eq_true c2, decide_eq_false (show ¬ c ≤ 90 by omega)]; simp
        · rw [decide_eq_false c2, decide_eq_true (show c ≤ 90 by omega)]; simp
    · simp
theorem yNm (s : List UInt8) (hs : s.length ≤ 9223372036854775807) : r13_Named s = some (nmV s) := by
  have n1 : ∀ q, s.length ≤ 12 → r13_Named_1 s q = some (!q && s.all cd) := fun q h => by
    rw [r13_Named_1_eq, show (0 : Int) = ((0 : Nat) : Int) from rfl, yNm2 s (by omega) s.length 0 (Nat.zero_add _)]; cases q <;> rfl
  have bad : r13_Named_1 s true = some false := by rw [r13_Named_1_eq, cond_true]
  rw [r13_Named_eq, bad]
  cases s with
  | nil => rfl
  | cons b t =>
    rw [cF (decide_eq_false (by simp; omega))]
    by_cases h12 : (b :: t).length ≤ 12
    · rw [cF (decide_eq_false (by omega)), r10_Letters_eq]
      obtain ⟨k, hk, hle⟩ := yLetters (b :: t) (by omega) t.length 1 (by simp; omega)
      have l1 : r10_Letters_1 (b :: t) 0 = some (cond (cap b) k 0) := by
        have l2 : ∀ q, r10_Letters_2 (b :: t) 0 q = some (cond q k 0) := fun q => by
          rw [r10_Letters_2_eq, show IntKind.i64.wrap (0 + 1) = ((1 : Nat) : Int) from rfl, hk]; cases q <;> rfl
        have in0 : (decide ((0 : Int) ≤ 0) && decide ((0 : Int) < ((b :: t).length : Int))) = true := ix (i := 0) (n := (b :: t).length) (by simp)
        rw [r10_Letters_1_eq, cT (show decide ((0 : Int) < ((b :: t).length : Int)) = true from decide_eq_true (by simp)), cT in0, cT in0, l2, l2]
        show cond (decide ((b.toNat : Int) ≥ 65)) (some (cond (decide ((b.toNat : Int) ≤ 90)) k 0)) (some (cond false k 0)) = _
        unfold cap
        by_cases c1 : (b.toNat : Int) ≥ 65
        · rw [cT (decide_eq_true c1), decide_eq_true (show 65 ≤ b.toNat by omega)]
          by_cases c2 : (b.toNat : Int) ≤ 90
          · rw [decide_eq_true c2, decide_eq_true (show b.toNat ≤ 90 by omega)]; rfl
          · rw [decide_eq_false c2, decide_eq_false (show ¬ b.toNat ≤ 90 by omega)]; rfl
        · rw [cF (decide_eq_false c1), decide_eq_false (show ¬ 65 ≤ b.toNat by omega)]; rfl
      rw [l1, Option.bind_some, n1 _ h12, nmV, decide_eq_true h12]
      show _ = some ((_ && cap b) && _)
      have : decide (b :: t = []) = false := decide_eq_false (by simp)
      rw [this]
      cases cap b
      · show some (!decide ((0 : Int) = 0) && _) = _
        simp
      · show some (!decide (k = 0) && _) = _
        rw [decide_eq_false (by omega)]; simp
    · rw [cT (decide_eq_true (by omega)), nmV, decide_eq_false h12]; simp
theorem named_nm (s : List UInt8) : H.namedB s = nmV s := by
  rw [Bool.eq_iff_iff]
  unfold H.namedB nmV
  simp only [Bool.and_eq_true, decide_eq_true_eq, List.all_eq_true, List.mem_range, Bool.not_eq_true', decide_eq_false_iff_not]
  have get : ∀ j (h : j < s.length), s.getD j 0 = s[j] := fun j h => by rw [List.getD_eq_getElem?_getD, List.getElem?_eq_getElem h]; rfl
  constructor
  · rintro ⟨h1, h2, h3⟩
    refine ⟨⟨fun x hx => ?_, ?_⟩, h1, h2⟩
    · obtain ⟨j, hj, rfl⟩ := List.getElem_of_mem hx
      have := h3 j hj
      unfold H.mayAt at this
      rw [get j hj] at this
      unfold cd
      rw [Bool.or_eq_true] at this ⊢
      exact this.imp id fun h => (Bool.and_eq_true _ _ ▸ h).2
    · have := h3 0 (List.length_pos_iff.2 h1)
      unfold H.mayAt at this
      have h : H.capN (s.getD 0 0).toNat = true := by simpa using this
      exact h
  · rintro ⟨⟨h1, h2⟩, h3, h4⟩
    refine ⟨h3, h4, fun j hj => ?_⟩
    unfold H.mayAt
    cases j with
    | zero => rw [show H.capN (s.getD 0 0).toNat = true from h2]; rfl
    | succ j =>
      have := h1 (s[j + 1]) (List.getElem_mem hj)
      rw [get _ hj]
      unfold cd at this
      have h : (H.capN s[j + 1].toNat || H.digN s[j + 1].toNat) = true := this
      simpa using h
theorem sign_eq (op : Int) : ∃ v, parse_Sign op = some v ∧ r14_Sign op = some v := by
  rw [parse_Sign_eq, parse_Sign_1_eq, r14_Sign_eq]
  by_cases h1 : op < 1
  · rw [cT (decide_eq_true h1), r14_Sign_1_eq, cond_true]
    refine ⟨_, ?_, rfl⟩
    by_cases h0 : op < 0
    · rw [cT (decide_eq_true h0), parse_Sign_2_eq, cond_true]
    · obtain rfl : op = 0 := by omega
      rw [cF (decide_eq_false h0), parse_Sign_2_eq]; rfl
  · rw [cF (decide_eq_false h1), cF (decide_eq_false (show ¬ op < 0 by omega)), r14_Sign_1_eq, parse_Sign_2_eq]
    by_cases h2 : op > 14
    · rw [cT (decide_eq_true h2), cT (decide_eq_true (show op ≥ 15 by omega))]; exact ⟨_, rfl, rfl⟩
    · rw [cF (decide_eq_false h2), cF (decide_eq_false (show ¬ op ≥ 15 by omega)), cT (show (decide (0 ≤ op) && decide (op < 15)) = true by simp; omega), r14_Signs_eq, Option.bind_some]
      refine ⟨_, rfl, ?_⟩
      exact cT (show (decide (0 ≤ op) && decide (op < 15)) = true by simp; omega)
theorem signs (hk : w14_known = some true) (op : Int) (s : List UInt8) (hs : s.length ≤ 9223372036854775807) : w14_ParseSigns op s = some true := by
  obtain ⟨v, h1, h2⟩ := sign_eq op
  have hn : parse_Named s = some (nmV s) := by rw [← named_nm]; exact (top_call ..).trans rfl
  rw [w14_ParseSigns_eq, h1, Option.bind_some, h2, Option.bind_some, cT (decide_eq_true rfl), hn, Option.bind_some, yNm s hs, Option.bind_some, cT (beq_self_eq_true _), hk]; rfl
end Go.Proofs.YtpdfjgooaaailaaGreatDoor.S
set_option maxRecDepth 100000
namespace Go.Proofs.YtpdfjgooaaailaaGreatDoor.K
open Go
theorem parse_known : w14_known = some true := of_depth 600 (by kernel_rfl)
theorem ParseSigns (op : Int) (_ : Wf (.int .i64) op) (s : List UInt8) (h : Wf .str s) : w14_ParseSigns op s = some true := S.signs parse_known op s (Nat.le_trans h (by decide))
end Go.Proofs.YtpdfjgooaaailaaGreatDoor.K
