/- Part 9 of the proof: the machine, the tables and the pure laws that the last text joins. -/
import Derived.Test.YtpdfjgooaaailaaGreatDoorZ8
import Derived.Test.YtpdfjgooaaailaaGreatDoorProg
import Derived.Test.YtpdfjgooaaailaaGreatDoorZ5
import Derived.Test.YtpdfjgooaaailaaGreatDoorZ7
set_option linter.unusedVariables false
set_option linter.unusedSimpArgs false
set_option maxRecDepth 100000
namespace Go.Proofs.YtpdfjgooaaailaaGreatDoor.K
open Go
theorem w21_FtextNames_eq (x0 : Int) : w21_FtextNames x0 = (ftext_Names).bind fun v1 => (r21_Names).bind fun v2 => cond (!decide ((v1.length : Int) = (v2.length : Int))) (w21_FtextNames_1 x0 v1 v2 true) (cond (decide (x0 < 0)) (w21_FtextNames_1 x0 v1 v2 true) (w21_FtextNames_1 x0 v1 v2 (decide (x0 ≥ (v2.length : Int))))) := (top_call ..).trans (by kernel_rfl)
theorem w21_FtextNames_1_eq (a1 : Int) (a2 a3 : List (TB9)) (a4 : Bool) : w21_FtextNames_1 a1 a2 a3 a4 = cond a4 (cond (decide ((a2.length : Int) = (a3.length : Int))) ((w21_known).bind fun v1 => some v1) (some false)) (cond (decide (0 ≤ a1) && decide (a1 < (a2.length : Int))) (cond (decide (0 ≤ a1) && decide (a1 < (a3.length : Int))) (cond (decide ((a2.getD a1.toNat []) = (a3.getD a1.toNat []))) ((w21_known).bind fun v2 => some v2) (some false)) none) none) := (top_stage ..).trans (by kernel_rfl)
theorem ftext_Names_eq : ftext_Names = some [([76,69,78] : TB9),([76,69,70,84] : TB9),([82,73,71,72,84] : TB9),([77,73,68] : TB9),([85,80,80,69,82] : TB9),([76,79,87,69,82] : TB9),([80,82,79,80,69,82] : TB9),([84,82,73,77] : TB9),([67,79,78,67,65,84] : TB9),([82,69,80,84] : TB9),([69,88,65,67,84] : TB9),([70,73,78,68] : TB9),([83,85,66,83,84,73,84,85,84,69] : TB9),([82,69,80,76,65,67,69] : TB9),([86,65,76,85,69] : TB9),([67,72,65,82] : TB9),([67,79,68,69] : TB9),([70,73,88,69,68] : TB9)] := (top_call ..).trans (by kernel_rfl)
theorem r21_Names_eq : r21_Names = some [([76,69,78] : TB9),([76,69,70,84] : TB9),([82,73,71,72,84] : TB9),([77,73,68] : TB9),([85,80,80,69,82] : TB9),([76,79,87,69,82] : TB9),([80,82,79,80,69,82] : TB9),([84,82,73,77] : TB9),([67,79,78,67,65,84] : TB9),([82,69,80,84] : TB9),([69,88,65,67,84] : TB9),([70,73,78,68] : TB9),([83,85,66,83,84,73,84,85,84,69] : TB9),([82,69,80,76,65,67,69] : TB9),([86,65,76,85,69] : TB9),([67,72,65,82] : TB9),([67,79,68,69] : TB9),([70,73,88,69,68] : TB9)] := (top_call ..).trans (by kernel_rfl)
end Go.Proofs.YtpdfjgooaaailaaGreatDoor.K
namespace Go.Proofs.YtpdfjgooaaailaaGreatDoor.F
open Go Go.Proofs.YtpdfjgooaaailaaGreatDoor.K
theorem wS {i : Nat} (h : i + 1 ≤ 9223372036854775807) : IntKind.i64.wrap ((i : Int) + 1) = ((i + 1 : Nat) : Int) := wrap64 (by omega) (by omega)
theorem getD_drop {s : List UInt8} {i : Nat} (h : i < s.length) : s.drop i = s.getD i 0 :: s.drop (i + 1) := by
  rw [List.drop_eq_getElem_cons h, List.getD_eq_getElem?_getD, List.getElem?_eq_getElem h]; rfl
theorem all_drop {p : UInt8 → Bool} {s : List UInt8} {i : Nat} (h : i < s.length) : (s.drop i).all p = (p (s.getD i 0) && (s.drop (i + 1)).all p) := by rw [getD_drop h, List.all_cons]
def lt (b : UInt8) : Bool := (decide (65 ≤ b.toNat) && decide (b.toNat ≤ 90)) || (decide (97 ≤ b.toNat) && decide (b.toNat ≤ 122))
def dgt (b : UInt8) : Bool := decide (48 ≤ b.toNat) && decide (b.toNat ≤ 57)
def cap (b : UInt8) : Bool := decide (65 ≤ b.toNat) && decide (b.toNat ≤ 90)
def up (b : UInt8) : UInt8 := if 97 ≤ b.toNat ∧ b.toNat ≤ 122 then UInt8.ofNat (b.toNat - 32) else b
end Go.Proofs.YtpdfjgooaaailaaGreatDoor.F
namespace Go.Proofs.YtpdfjgooaaailaaGreatDoor.S
open Go Go.Proofs.YtpdfjgooaaailaaGreatDoor.K
open Go.Proofs.YtpdfjgooaaailaaGreatDoor.F (cap dgt all_drop wS)
theorem ix {i n : Nat} (h : i < n) : (decide (0 ≤ (i : Int)) && decide ((i : Int) < (n : Int))) = true := by simp; omega
def cd (b : UInt8) : Bool := cap b || dgt b
theorem names1 (hk : w21_known = some true) (l : List (List UInt8)) (i : Int) (q : Bool) (h : q = false → 0 ≤ i ∧ i < (l.length : Int)) : w21_FtextNames_1 i l l q = some true := by
  rw [w21_FtextNames_1_eq]
  cases q with
  | true => rw [cond_true, cT (decide_eq_true rfl), hk]; rfl
  | false =>
    obtain ⟨h1, h2⟩ := h rfl
    have hi : (decide (0 ≤ i) && decide (i < (l.length : Int))) = true := by simp [h1, h2]
    rw [cond_false, cT hi, cT hi, cT (decide_eq_true rfl), hk]; rfl
theorem names (hk : w21_known = some true) (i : Int) : w21_FtextNames i = some true := by
  have e : r21_Names = ftext_Names := by rw [r21_Names_eq, ftext_Names_eq]
  obtain ⟨l, hl⟩ : ∃ l, ftext_Names = some l := ⟨_, ftext_Names_eq⟩
  rw [w21_FtextNames_eq, e, hl, Option.bind_some, Option.bind_some, cF (show (!decide ((l.length : Int) = (l.length : Int))) = false by rw [decide_eq_true rfl]; rfl)]
  by_cases h0 : i < 0
  · rw [cT (decide_eq_true h0)]; exact names1 hk l i true (fun h => by cases h)
  · rw [cF (decide_eq_false h0)]; exact names1 hk l i _ (fun h => by have := of_decide_eq_false h; omega)
end Go.Proofs.YtpdfjgooaaailaaGreatDoor.S
set_option maxRecDepth 100000
namespace Go.Proofs.YtpdfjgooaaailaaGreatDoor.K
open Go
theorem ftext_known : w21_known = some true := of_depth 600 (by kernel_rfl)
theorem FtextNames (i : Int) (_ : Wf (.int .i64) i) : w21_FtextNames i = some true := S.names ftext_known i
end Go.Proofs.YtpdfjgooaaailaaGreatDoor.K
