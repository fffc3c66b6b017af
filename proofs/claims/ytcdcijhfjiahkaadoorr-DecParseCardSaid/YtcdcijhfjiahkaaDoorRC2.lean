/- The tables are the program's own. -/
import Derived.Test.YtcdcijhfjiahkaaDoorRKH
import Derived.Test.YtcdcijhfjiahkaaDoorRC0
set_option linter.unusedVariables false
set_option maxRecDepth 100000
namespace Go.Proofs.YtcdcijhfjiahkaaDoorR.C
open Go Go.Proofs.YtcdcijhfjiahkaaDoorR.K
theorem look_all {α : Type} {Q : Nat → α → Prop} : ∀ {l : List (Nat × α)}, (∀ p ∈ l, Q p.1 p.2) → ∀ t v, look l t = some v → Q t v
  | [], _, t, v, h => by cases h
  | (u, x) :: l, hl, t, v, h => by
    simp only [look] at h
    split at h
    · rename_i hb
      have := Nat.eq_of_beq_eq_true hb
      subst this
      cases h
      exact hl _ (List.mem_cons_self ..)
    · exact look_all (fun p hp => hl p (List.mem_cons_of_mem _ hp)) t v h
theorem all_nil {α : Type} {Q : Nat → α → Prop} : ∀ p ∈ ([] : List (Nat × α)), Q p.1 p.2 := fun p h => by cases h
theorem all_cons {α : Type} {Q : Nat → α → Prop} {u : Nat} {x : α} {l : List (Nat × α)} (h : Q u x) (hl : ∀ p ∈ l, Q p.1 p.2) : ∀ p ∈ (u, x) :: l, Q p.1 p.2 := fun p hp => by
  rcases List.mem_cons.1 hp with rfl | hp
  · exact h
  · exact hl p hp
theorem tiok3 : TIok Tryd.prog 3 ti3 := ⟨by kernel_rfl, by kernel_rfl, by kernel_rfl, by kernel_rfl, by kernel_rfl, by kernel_rfl, by kernel_rfl, by kernel_rfl, ⟨by kernel_rfl, by kernel_rfl, by kernel_rfl⟩, fun h => by cases h⟩
theorem tiok5 : TIok Tryd.prog 5 ti5 := ⟨by kernel_rfl, by kernel_rfl, by kernel_rfl, by kernel_rfl, by kernel_rfl, by kernel_rfl, by kernel_rfl, by kernel_rfl, ⟨by kernel_rfl, by kernel_rfl, by kernel_rfl⟩, fun h => by cases h⟩
theorem tiok9 : TIok Tryd.prog 9 ti9 := ⟨by kernel_rfl, by kernel_rfl, by kernel_rfl, by kernel_rfl, by kernel_rfl, by kernel_rfl, by kernel_rfl, by kernel_rfl, ⟨by kernel_rfl, by kernel_rfl, by kernel_rfl⟩, fun h => by cases h⟩
theorem tiok22 : TIok Tryd.prog 22 ti22 := ⟨by kernel_rfl, by kernel_rfl, by kernel_rfl, by kernel_rfl, by kernel_rfl, by kernel_rfl, by kernel_rfl, by kernel_rfl, ⟨by kernel_rfl, by kernel_rfl, by kernel_rfl⟩, fun h => by cases h⟩
theorem tiok82 : TIok Tryd.prog 82 ti82 := ⟨by kernel_rfl, by kernel_rfl, by kernel_rfl, by kernel_rfl, by kernel_rfl, by kernel_rfl, by kernel_rfl, by kernel_rfl, ⟨by kernel_rfl, by kernel_rfl, by kernel_rfl⟩, fun h => by cases h⟩
theorem tiok86 : TIok Tryd.prog 86 ti86 := ⟨by kernel_rfl, by kernel_rfl, by kernel_rfl, by kernel_rfl, by kernel_rfl, by kernel_rfl, by kernel_rfl, by kernel_rfl, ⟨by kernel_rfl, by kernel_rfl, by kernel_rfl⟩, fun h => by cases h⟩
theorem tiok89 : TIok Tryd.prog 89 ti89 := ⟨by kernel_rfl, by kernel_rfl, by kernel_rfl, by kernel_rfl, by kernel_rfl, by kernel_rfl, by kernel_rfl, by kernel_rfl, ⟨by kernel_rfl, by kernel_rfl, by kernel_rfl⟩, fun h => by cases h⟩
theorem tiok96 : TIok Tryd.prog 96 ti96 := ⟨by kernel_rfl, by kernel_rfl, by kernel_rfl, by kernel_rfl, by kernel_rfl, by kernel_rfl, by kernel_rfl, by kernel_rfl, ⟨by kernel_rfl, by kernel_rfl, by kernel_rfl⟩, fun h => by cases h⟩
theorem tiok133 : TIok Tryd.prog 133 ti133 := ⟨by kernel_rfl, by kernel_rfl, by kernel_rfl, by kernel_rfl, by kernel_rfl, by kernel_rfl, by kernel_rfl, by kernel_rfl, ⟨by kernel_rfl, by kernel_rfl, by kernel_rfl⟩, fun h => by cases h⟩
theorem tis_ok : CtxTI Tryd.prog CT := look_all (l := tis) (all_cons tiok3 (all_cons tiok5 (all_cons tiok9 (all_cons tiok22 (all_cons tiok82 (all_cons tiok86 (all_cons tiok89 (all_cons tiok96 (all_cons tiok133 all_nil)))))))))
def FnOk (f : Nat) (fn : Func) : Prop := Tryd.prog.funcs[f]? = some fn ∧ fn.body.isSome = true ∧ (fn.name == "runtime.NumGoroutine") = false
def ParOk (i : Nat) (fn : Func) : Prop := ((look ptsL i).getD []).length ≤ fn.ntmps
theorem fnok138 : FnOk 138 Tryd.f138 := ⟨Tryd.func138, by kernel_rfl, by kernel_rfl⟩
theorem parok138 : ParOk 138 Tryd.f138 := Nat.le_of_ble_eq_true (by kernel_rfl)
theorem fnok139 : FnOk 139 Tryd.f139 := ⟨Tryd.func139, by kernel_rfl, by kernel_rfl⟩
theorem parok139 : ParOk 139 Tryd.f139 := Nat.le_of_ble_eq_true (by kernel_rfl)
theorem fnok13 : FnOk 13 Tryd.f13 := ⟨Tryd.func13, by kernel_rfl, by kernel_rfl⟩
theorem parok13 : ParOk 13 Tryd.f13 := Nat.le_of_ble_eq_true (by kernel_rfl)
theorem fnok14 : FnOk 14 Tryd.f14 := ⟨Tryd.func14, by kernel_rfl, by kernel_rfl⟩
theorem parok14 : ParOk 14 Tryd.f14 := Nat.le_of_ble_eq_true (by kernel_rfl)
theorem fnok15 : FnOk 15 Tryd.f15 := ⟨Tryd.func15, by kernel_rfl, by kernel_rfl⟩
theorem parok15 : ParOk 15 Tryd.f15 := Nat.le_of_ble_eq_true (by kernel_rfl)
theorem fnok16 : FnOk 16 Tryd.f16 := ⟨Tryd.func16, by kernel_rfl, by kernel_rfl⟩
theorem parok16 : ParOk 16 Tryd.f16 := Nat.le_of_ble_eq_true (by kernel_rfl)
theorem fnok17 : FnOk 17 Tryd.f17 := ⟨Tryd.func17, by kernel_rfl, by kernel_rfl⟩
theorem parok17 : ParOk 17 Tryd.f17 := Nat.le_of_ble_eq_true (by kernel_rfl)
theorem fnok18 : FnOk 18 Tryd.f18 := ⟨Tryd.func18, by kernel_rfl, by kernel_rfl⟩
theorem parok18 : ParOk 18 Tryd.f18 := Nat.le_of_ble_eq_true (by kernel_rfl)
theorem fnok41 : FnOk 41 Tryd.f41 := ⟨Tryd.func41, by kernel_rfl, by kernel_rfl⟩
theorem parok41 : ParOk 41 Tryd.f41 := Nat.le_of_ble_eq_true (by kernel_rfl)
theorem fnok42 : FnOk 42 Tryd.f42 := ⟨Tryd.func42, by kernel_rfl, by kernel_rfl⟩
theorem parok42 : ParOk 42 Tryd.f42 := Nat.le_of_ble_eq_true (by kernel_rfl)
theorem fnok43 : FnOk 43 Tryd.f43 := ⟨Tryd.func43, by kernel_rfl, by kernel_rfl⟩
theorem parok43 : ParOk 43 Tryd.f43 := Nat.le_of_ble_eq_true (by kernel_rfl)
theorem fnok44 : FnOk 44 Tryd.f44 := ⟨Tryd.func44, by kernel_rfl, by kernel_rfl⟩
theorem parok44 : ParOk 44 Tryd.f44 := Nat.le_of_ble_eq_true (by kernel_rfl)
theorem fnok46 : FnOk 46 Tryd.f46 := ⟨Tryd.func46, by kernel_rfl, by kernel_rfl⟩
theorem parok46 : ParOk 46 Tryd.f46 := Nat.le_of_ble_eq_true (by kernel_rfl)
theorem fnok47 : FnOk 47 Tryd.f47 := ⟨Tryd.func47, by kernel_rfl, by kernel_rfl⟩
theorem parok47 : ParOk 47 Tryd.f47 := Nat.le_of_ble_eq_true (by kernel_rfl)
theorem fnok48 : FnOk 48 Tryd.f48 := ⟨Tryd.func48, by kernel_rfl, by kernel_rfl⟩
theorem parok48 : ParOk 48 Tryd.f48 := Nat.le_of_ble_eq_true (by kernel_rfl)
theorem fnok72 : FnOk 72 Tryd.f72 := ⟨Tryd.func72, by kernel_rfl, by kernel_rfl⟩
theorem parok72 : ParOk 72 Tryd.f72 := Nat.le_of_ble_eq_true (by kernel_rfl)
theorem fnok73 : FnOk 73 Tryd.f73 := ⟨Tryd.func73, by kernel_rfl, by kernel_rfl⟩
theorem parok73 : ParOk 73 Tryd.f73 := Nat.le_of_ble_eq_true (by kernel_rfl)
theorem fnok74 : FnOk 74 Tryd.f74 := ⟨Tryd.func74, by kernel_rfl, by kernel_rfl⟩
theorem parok74 : ParOk 74 Tryd.f74 := Nat.le_of_ble_eq_true (by kernel_rfl)
theorem fnok75 : FnOk 75 Tryd.f75 := ⟨Tryd.func75, by kernel_rfl, by kernel_rfl⟩
theorem parok75 : ParOk 75 Tryd.f75 := Nat.le_of_ble_eq_true (by kernel_rfl)
theorem fnok76 : FnOk 76 Tryd.f76 := ⟨Tryd.func76, by kernel_rfl, by kernel_rfl⟩
theorem parok76 : ParOk 76 Tryd.f76 := Nat.le_of_ble_eq_true (by kernel_rfl)
theorem fnok87 : FnOk 87 Tryd.f87 := ⟨Tryd.func87, by kernel_rfl, by kernel_rfl⟩
theorem parok87 : ParOk 87 Tryd.f87 := Nat.le_of_ble_eq_true (by kernel_rfl)
theorem fnok88 : FnOk 88 Tryd.f88 := ⟨Tryd.func88, by kernel_rfl, by kernel_rfl⟩
theorem parok88 : ParOk 88 Tryd.f88 := Nat.le_of_ble_eq_true (by kernel_rfl)
theorem fnok89 : FnOk 89 Tryd.f89 := ⟨Tryd.func89, by kernel_rfl, by kernel_rfl⟩
theorem parok89 : ParOk 89 Tryd.f89 := Nat.le_of_ble_eq_true (by kernel_rfl)
theorem fnok99 : FnOk 99 Tryd.f99 := ⟨Tryd.func99, by kernel_rfl, by kernel_rfl⟩
theorem parok99 : ParOk 99 Tryd.f99 := Nat.le_of_ble_eq_true (by kernel_rfl)
theorem fnok100 : FnOk 100 Tryd.f100 := ⟨Tryd.func100, by kernel_rfl, by kernel_rfl⟩
theorem parok100 : ParOk 100 Tryd.f100 := Nat.le_of_ble_eq_true (by kernel_rfl)
theorem fnok106 : FnOk 106 Tryd.f106 := ⟨Tryd.func106, by kernel_rfl, by kernel_rfl⟩
theorem parok106 : ParOk 106 Tryd.f106 := Nat.le_of_ble_eq_true (by kernel_rfl)
theorem fnok107 : FnOk 107 Tryd.f107 := ⟨Tryd.func107, by kernel_rfl, by kernel_rfl⟩
theorem parok107 : ParOk 107 Tryd.f107 := Nat.le_of_ble_eq_true (by kernel_rfl)
theorem fnok120 : FnOk 120 Tryd.f120 := ⟨Tryd.func120, by kernel_rfl, by kernel_rfl⟩
theorem parok120 : ParOk 120 Tryd.f120 := Nat.le_of_ble_eq_true (by kernel_rfl)
theorem fnok121 : FnOk 121 Tryd.f121 := ⟨Tryd.func121, by kernel_rfl, by kernel_rfl⟩
theorem parok121 : ParOk 121 Tryd.f121 := Nat.le_of_ble_eq_true (by kernel_rfl)
theorem fnok122 : FnOk 122 Tryd.f122 := ⟨Tryd.func122, by kernel_rfl, by kernel_rfl⟩
theorem parok122 : ParOk 122 Tryd.f122 := Nat.le_of_ble_eq_true (by kernel_rfl)
theorem fnok123 : FnOk 123 Tryd.f123 := ⟨Tryd.func123, by kernel_rfl, by kernel_rfl⟩
theorem parok123 : ParOk 123 Tryd.f123 := Nat.le_of_ble_eq_true (by kernel_rfl)
theorem fnok125 : FnOk 125 Tryd.f125 := ⟨Tryd.func125, by kernel_rfl, by kernel_rfl⟩
theorem parok125 : ParOk 125 Tryd.f125 := Nat.le_of_ble_eq_true (by kernel_rfl)
theorem fnok135 : FnOk 135 Tryd.f135 := ⟨Tryd.func135, by kernel_rfl, by kernel_rfl⟩
theorem parok135 : ParOk 135 Tryd.f135 := Nat.le_of_ble_eq_true (by kernel_rfl)
theorem fnok136 : FnOk 136 Tryd.f136 := ⟨Tryd.func136, by kernel_rfl, by kernel_rfl⟩
theorem parok136 : ParOk 136 Tryd.f136 := Nat.le_of_ble_eq_true (by kernel_rfl)
theorem fnok137 : FnOk 137 Tryd.f137 := ⟨Tryd.func137, by kernel_rfl, by kernel_rfl⟩
theorem parok137 : ParOk 137 Tryd.f137 := Nat.le_of_ble_eq_true (by kernel_rfl)
theorem fnok140 : FnOk 140 Tryd.f140 := ⟨Tryd.func140, by kernel_rfl, by kernel_rfl⟩
theorem parok140 : ParOk 140 Tryd.f140 := Nat.le_of_ble_eq_true (by kernel_rfl)
theorem fns_ok : ∀ f fn, look fns f = some fn → FnOk f fn := look_all (Q := FnOk) (l := fns) (all_cons fnok13 (all_cons fnok14 (all_cons fnok15 (all_cons fnok16 (all_cons fnok17 (all_cons fnok18 (all_cons fnok41 (all_cons fnok42 (all_cons fnok43 (all_cons fnok44 (all_cons fnok46 (all_cons fnok47 (all_cons fnok48 (all_cons fnok72 (all_cons fnok73 (all_cons fnok74 (all_cons fnok75 (all_cons fnok76 (all_cons fnok87 (all_cons fnok88 (all_cons fnok89 (all_cons fnok99 (all_cons fnok100 (all_cons fnok106 (all_cons fnok107 (all_cons fnok120 (all_cons fnok121 (all_cons fnok122 (all_cons fnok123 (all_cons fnok125 (all_cons fnok135 (all_cons fnok136 (all_cons fnok137 (all_cons fnok140 (all_cons fnok138 (all_cons fnok139 all_nil))))))))))))))))))))))))))))))))))))
theorem ctx_ok : CtxOk Tryd.prog CT := ⟨tis_ok, fns_ok, by kernel_rfl, inv_keeps⟩
theorem pars_ok : ∀ i fn, look fns i = some fn → ParOk i fn := look_all (Q := ParOk) (l := fns) (all_cons parok13 (all_cons parok14 (all_cons parok15 (all_cons parok16 (all_cons parok17 (all_cons parok18 (all_cons parok41 (all_cons parok42 (all_cons parok43 (all_cons parok44 (all_cons parok46 (all_cons parok47 (all_cons parok48 (all_cons parok72 (all_cons parok73 (all_cons parok74 (all_cons parok75 (all_cons parok76 (all_cons parok87 (all_cons parok88 (all_cons parok89 (all_cons parok99 (all_cons parok100 (all_cons parok106 (all_cons parok107 (all_cons parok120 (all_cons parok121 (all_cons parok122 (all_cons parok123 (all_cons parok125 (all_cons parok135 (all_cons parok136 (all_cons parok137 (all_cons parok140 (all_cons parok138 (all_cons parok139 all_nil))))))))))))))))))))))))))))))))))))
theorem sound (hE : ExtOk Tryd.prog CT) : ∀ k, SpecOk Tryd.prog (sem CT k) ∧ StageOk Tryd.prog (sem CT k) := sem_sound ctx_ok hE pars_ok
theorem ext_ok : ExtOk Tryd.prog CT := ext_of (l := extL) rfl (allE_cons (ext_at (H.text_ok inv_keeps (B.cut_ok inv_max) (B.trim_ok inv_max))) (allE_cons (ext_at (trimLeft_ok)) (allE_cons (ext_at (H.cmp_ok)) (allE_cons (ext_at (H.short_ok)) (allE_cons (ext_at (H.textDiv_ok inv_keeps (B.trim_ok inv_max))) (allE_cons (ext_at (lz32_ok)) allE_nil))))))
theorem spec_ok (k : Nat) : SpecOk Tryd.prog (sem CT k) := (sound ext_ok k).1
end Go.Proofs.YtcdcijhfjiahkaaDoorR.C
