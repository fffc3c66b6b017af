/- The machine at this seat: tables, names. -/
import Derived.Test.YtcdcijhfjiahkaaDoorRKM
import Derived.Test.YtcdcijhfjiahkaaDoorRProg
set_option linter.unusedVariables false
set_option maxRecDepth 100000
namespace Go.Proofs.YtcdcijhfjiahkaaDoorR.K
open Go
def look {α : Type} : List (Nat × α) → Nat → Option α
  | [], _ => none
  | (u, v) :: l, t => match Nat.beq u t with
    | true => some v
    | false => look l t
def peq : Path → Path → Bool
  | [], [] => true
  | a :: p, b :: q => Nat.beq a b && peq p q
  | _, _ => false
def lookP : List (Nat × Path × Ann) → Nat → Path → Option Ann
  | [], _, _ => none
  | (g, u, v) :: l, f, t => match Nat.beq g f && peq u t with
    | true => some v
    | false => lookP l f t
def Inv (w : World) : Prop := MaxLen w
theorem inv_max : ∀ w, Inv w → MaxLen w := fun _ h => h
theorem inv_keeps : ∀ w w', Inv w → RowKit.Below w.heap.size w w' → Inv w' := fun w w' ⟨m, h⟩ hb => ⟨m, (hb.cell (p := ⟨0, 0, none⟩) (maxLen_lt h)).trans h⟩
noncomputable def ti3 : TI := { sh := (.int .i64), size := 1, bytes := 8, zero := [(.int .i64 0)], ty := some (.int .i64), fl := [], eq := false }
noncomputable def ti4 : TI := { sh := .bool, size := 1, bytes := 1, zero := [(.bool false)], ty := some .bool, fl := [], eq := false }
noncomputable def ti5 : TI := { sh := (.int .u8), size := 1, bytes := 1, zero := [(.int .u8 0)], ty := some (.int .u8), fl := [], eq := false }
noncomputable def ti9 : TI := { sh := .str, size := 1, bytes := 16, zero := [(.str [])], ty := some .str, fl := [], eq := false }
noncomputable def ti57 : TI := { sh := (.sl 9), size := 1, bytes := 24, zero := [.nilsl], ty := some (.sl .str), fl := [], eq := false }
noncomputable def ti59 : TI := { sh := (.st [(0, 9), (1, 57)]), size := 2, bytes := 40, zero := [(.str []), .nilsl], ty := some (.pair .str (.sl .str)), fl := [(0, 1, false), (1, 1, false)], eq := false }
noncomputable def ti63 : TI := { sh := (.st [(0, 9), (1, 57)]), size := 2, bytes := 40, zero := [(.str []), .nilsl], ty := some (.pair .str (.sl .str)), fl := [(0, 1, false), (1, 1, false)], eq := false }
noncomputable def ti89 : TI := { sh := (.sl 5), size := 1, bytes := 24, zero := [.nilsl], ty := some (.sl (.int .u8)), fl := [], eq := false }
noncomputable def tis : List (Nat × TI) := [(3, ti3), (4, ti4), (5, ti5), (9, ti9), (57, ti57), (59, ti59), (63, ti63), (89, ti89)]
noncomputable def fns : List (Nat × Func) := [(8, Tryd.f8), (9, Tryd.f9), (10, Tryd.f10), (49, Tryd.f49), (50, Tryd.f50), (51, Tryd.f51), (52, Tryd.f52), (53, Tryd.f53), (54, Tryd.f54), (55, Tryd.f55), (56, Tryd.f56), (57, Tryd.f57), (58, Tryd.f58), (59, Tryd.f59), (60, Tryd.f60), (61, Tryd.f61), (62, Tryd.f62), (63, Tryd.f63), (90, Tryd.f90), (91, Tryd.f91), (92, Tryd.f92), (93, Tryd.f93), (94, Tryd.f94), (95, Tryd.f95), (96, Tryd.f96), (97, Tryd.f97), (98, Tryd.f98), (116, Tryd.f116), (117, Tryd.f117), (119, Tryd.f119)]
def inls : List Nat := []
noncomputable def ptsL : List (Nat × List Ty) := [(8, [(.pair .str (.sl .str))]), (9, [.str]), (10, [.str, (.int .i64)]), (49, [(.pair .str (.sl .str))]), (50, []), (51, [(.pair .str (.sl .str))]), (52, [(.pair .str (.sl .str))]), (53, [(.pair .str (.sl .str))]), (54, [(.pair .str (.sl .str))]), (55, [(.pair .str (.sl .str))]), (56, [.str]), (57, [(.pair .str (.sl .str)), (.pair .str (.sl .str))]), (58, [(.pair .str (.sl .str))]), (59, [.str]), (60, [.str]), (61, [.str]), (62, []), (63, []), (90, [(.pair .str (.sl .str))]), (91, [(.pair .str (.sl .str))]), (92, [(.sl .str), .str]), (93, [.str, (.int .u8)]), (94, [.str]), (95, [.str, (.int .u8)]), (96, [.str, .str]), (97, [.str, (.int .i64)]), (98, [.str]), (116, [(.sl .str), .str]), (117, [(.sl .str), .str]), (119, [.str, .str])]
noncomputable def rtsL : List (Nat × List Ty) := [(8, [.bool]), (9, [.bool]), (10, [.bool]), (49, [.bool]), (50, [.bool]), (51, [.str, (.int .i64)]), (52, [(.pair .str (.sl .str))]), (53, [.str, (.int .i64)]), (54, [.bool]), (55, [.bool]), (56, [(.pair .str (.sl .str)), (.int .i64)]), (57, [.bool]), (58, [(.pair .str (.sl .str))]), (59, [(.pair .str (.sl .str)), (.int .i64)]), (60, [(.int .i64), (.int .i64), .bool]), (61, [(.int .i64), (.int .i64), .bool]), (62, [(.sl .str)]), (63, [(.sl .str)]), (90, [.str]), (91, [.str]), (92, [.bool]), (93, [.bool]), (94, [.bool]), (95, [.bool]), (96, [.str, .str, .bool]), (97, [(.sl .str)]), (98, [.str, .str, .bool]), (116, [.str]), (117, [(.int .i64)]), (119, [(.own .str)])]
noncomputable def annL : List (Nat × List (Nat × Path × Ann)) := [
  (8, [(8, [1, 0, 1, 1, 1, 1], { live := [(1, .keep), (3, .keep), (6, .keep), (39, .keep)], toks := [(16, [.keep, .im (.sl .str)])] })]),
  (9, [(9, [1, 0, 1, 1, 1, 1], { live := [(0, .keep), (3, .keep), (6, .keep), (32, .keep)], toks := [(48, [.keep, .im (.sl .str)])] })]),
  (10, [(10, [1, 0, 1, 1, 1, 1, 1], { live := [(1, .keep), (11, .im (.sl .str)), (12, .im (.sl .str)), (46, .keep)], toks := [] })]),
  (49, [(49, [1, 0, 1], { live := [(1, .keep), (13, .keep)], toks := [(16, [.keep, .im (.sl .str)])] }),
    (49, [0, 1, 0, 1, 1], { live := [(1, .keep), (3, .keep)], toks := [(16, [.keep, .im (.sl .str)])] })]),
  (54, [(54, [1, 0, 1, 1, 1], { live := [(1, .keep), (5, .keep), (6, .keep), (33, .keep)], toks := [(16, [.keep, .im (.sl .str)])] }),
    (54, [0, 1, 0, 1, 1, 1, 1], { live := [(5, .keep), (6, .keep), (35, .im (.sl .str)), (36, .keep), (37, .keep)], toks := [] }),
    (54, [1, 1, 1, 0, 1, 0, 0, 1, 1, 0, 0, 1, 0, 1, 1, 1, 1], { live := [(5, .keep), (6, .keep), (35, .im (.sl .str)), (36, .keep), (37, .keep), (53, .keep)], toks := [] }),
    (54, [1, 0, 1, 0, 0, 1, 1, 0, 0, 1, 0, 1, 1, 1, 1], { live := [(5, .keep), (6, .keep), (8, .keep), (35, .im (.sl .str)), (36, .keep), (37, .keep), (42, .keep)], toks := [] })]),
  (55, [(55, [1, 0, 1, 1, 1], { live := [(1, .keep), (5, .keep), (6, .keep), (31, .keep)], toks := [(16, [.keep, .im (.sl .str)])] }),
    (55, [0, 1, 0, 1, 1, 1, 1], { live := [(1, .keep), (5, .keep), (6, .keep), (7, .keep)], toks := [(16, [.keep, .im (.sl .str)])] }),
    (55, [1, 1, 1, 0, 0, 1, 0, 0, 1, 0, 1, 1, 1, 1], { live := [(1, .keep), (5, .keep), (6, .keep), (7, .keep), (65, .keep)], toks := [(16, [.keep, .im (.sl .str)])] }),
    (55, [1, 0, 0, 1, 0, 0, 1, 0, 1, 1, 1, 1], { live := [(1, .keep), (5, .keep), (6, .keep), (7, .keep), (43, .keep)], toks := [(16, [.keep, .im (.sl .str)])] })]),
  (56, [(56, [1, 1, 0, 1, 0, 1, 1, 1, 1, 1], { live := [(2, .keep), (5, .keep), (7, .keep), (8, .keep)], toks := [(32, [.keep, .im (.sl .str)]), (112, [.keep, .im (.sl .str)])] })]),
  (57, [(57, [1, 0, 1], { live := [(2, .keep), (3, .keep), (19, .keep)], toks := [(32, [.keep, .im (.sl .str)]), (48, [.keep, .im (.sl .str)])] }),
    (57, [0, 1, 0, 1, 1], { live := [(2, .keep), (3, .keep), (5, .keep)], toks := [(32, [.keep, .im (.sl .str)]), (48, [.keep, .im (.sl .str)])] })]),
  (59, [(59, [0, 0, 1, 1, 1, 1, 1, 1], { live := [(0, .keep), (2, .keep), (5, .keep), (6, .keep), (7, .keep), (9, .keep), (10, .keep)], toks := [(32, [.keep, .im (.sl .str)]), (112, [.keep, .own 1099511627776 .str])] }),
    (59, [1, 0, 1, 1, 1, 1, 1, 1, 1], { live := [(2, .keep), (7, .keep), (76, .keep)], toks := [(32, [.keep, .im (.sl .str)]), (112, [.keep, .own 1099511627777 .str])] }),
    (59, [1, 0, 0, 1, 0, 0, 0, 1, 1, 1, 1, 1, 1], { live := [(0, .keep), (2, .keep), (5, .keep), (7, .keep), (9, .keep), (10, .keep), (49, .keep)], toks := [(32, [.keep, .im (.sl .str)]), (112, [.keep, .own 1099511627778 .str])] }),
    (59, [1, 0, 0, 0, 0, 1, 1, 1, 1, 1, 1], { live := [(0, .keep), (2, .keep), (5, .keep), (7, .keep), (9, .keep), (10, .keep), (40, .keep)], toks := [(32, [.keep, .im (.sl .str)]), (112, [.keep, .own 1099511627779 .str])] })]),
  (60, [(60, [1, 0, 1, 1, 0, 0, 0, 0, 0, 0, 0, 0, 0, 0, 0, 0, 0, 0, 0, 0, 1, 0, 1, 1], { live := [(0, .keep), (5, .keep), (6, .keep), (11, .keep)], toks := [] }),
    (60, [1, 0, 0, 0, 0, 0, 0, 0, 1, 0, 1, 1], { live := [(0, .keep), (5, .keep)], toks := [] }),
    (60, [1, 0, 1, 1, 1, 0, 0, 0, 0, 0, 0, 0, 0, 0, 0, 0, 0, 0, 0, 0, 0, 1, 0, 1, 1], { live := [(0, .keep), (5, .keep), (6, .keep), (14, .keep)], toks := [] }),
    (60, [1, 0, 1, 1, 1, 1, 0, 0, 0, 0, 0, 0, 0, 0, 0, 0, 0, 0, 0, 0, 0, 0, 1, 0, 1, 1], { live := [(0, .keep), (5, .keep), (6, .keep), (17, .keep)], toks := [] }),
    (60, [1, 0, 0, 0, 1, 0, 1, 1], { live := [(0, .keep), (5, .keep)], toks := [] }),
    (60, [1, 0, 1, 1, 1, 1, 1, 0, 0, 0, 0, 0, 0, 0, 0, 0, 0, 0, 0, 0, 0, 0, 0, 1, 0, 1, 1], { live := [(0, .keep), (5, .keep), (6, .keep), (21, .keep)], toks := [] }),
    (60, [1, 1, 1, 1, 1, 1, 1, 0, 0, 0, 0, 0, 0, 0, 0, 0, 0, 0, 0, 0, 0, 0, 0, 1, 0, 1, 1], { live := [(0, .keep), (5, .keep), (26, .keep)], toks := [] }),
    (60, [1, 1, 1], { live := [(0, .keep), (5, .keep)], toks := [] })]),
  (61, [(61, [1, 1, 1, 0, 1, 1], { live := [(5, .keep), (8, .keep)], toks := [] }),
    (61, [1, 1, 1, 1, 1, 0, 1, 1], { live := [(5, .keep), (12, .keep)], toks := [] }),
    (61, [1, 1, 1, 1, 1, 1, 1, 0, 1, 1], { live := [(5, .keep), (19, .keep)], toks := [] }),
    (61, [1, 1, 1, 1, 1, 1, 1, 1, 1, 0, 1, 1], { live := [(5, .keep), (22, .keep)], toks := [] }),
    (61, [1, 1, 1, 1, 1, 1, 1, 1, 1, 1, 1, 1, 1, 0, 1, 1], { live := [(5, .keep), (27, .keep)], toks := [] })]),
  (91, [(91, [0, 1, 0, 1, 1], { live := [(1, .keep), (3, .keep), (4, .keep)], toks := [(16, [.keep, .im (.sl .str)])] })]),
  (93, [(93, [0, 1, 0, 1], { live := [(1, .keep), (8, .im (.sl (.int .u8))), (9, .keep), (10, .keep)], toks := [] }),
    (93, [1, 1, 0, 0, 1, 1, 0, 0, 1, 0, 1], { live := [(1, .keep), (8, .im (.sl (.int .u8))), (9, .keep), (10, .keep), (20, .keep)], toks := [] })]),
  (94, [(94, [0, 1, 0, 1, 1], { live := [(0, .keep), (3, .im (.sl .str)), (4, .keep)], toks := [] })]),
  (95, [(95, [0, 1, 0, 1], { live := [(0, .keep), (1, .keep), (5, .keep)], toks := [] }),
    (95, [1, 0, 0, 1, 0, 0, 1, 0, 1], { live := [(0, .keep), (1, .keep), (5, .keep), (22, .keep)], toks := [] })]),
  (97, [(97, [1, 0, 1, 1], { live := [(1, .keep), (5, .own 1099511627780 .str), (16, .keep)], toks := [] })]),
  (98, [(98, [0, 1, 0, 1], { live := [(0, .keep), (5, .keep)], toks := [] })]),
  (117, [(117, [0, 1, 0, 1], { live := [(0, .im (.sl .str)), (1, .keep), (7, .keep), (8, .keep)], toks := [] })])]
noncomputable def extL : List ((j : Nat) × (den (tyL ((look ptsL j).getD [])) → Option (den (tyL ((look rtsL j).getD []))))) := [⟨96, cutF⟩, ⟨116, joinF⟩, ⟨119, splitF⟩]
noncomputable def CT : Ctx where
  ti := look tis
  fn := look fns
  disp := fun _ f _ => match inls.elem f with
    | true => .inl
    | false => .spec f
  fid := fun i => i
  pts := fun i => (look ptsL i).getD []
  rts := fun i => (look rtsL i).getD []
  ext := lookE extL
  ann := fun i f p => match look annL i with
    | some l => lookP l f p
    | none => none
  inv := Inv
noncomputable abbrev abacistlaw40_CmdLines (x0 : List UInt8 × List (List UInt8)) : Option (Bool) := (top CT).callF 8 (x0)
noncomputable abbrev abacistlaw40_CmdLines_1 (a1 : List UInt8) (a2 : Int) (a3 : Bool) (a4 : List UInt8) (a5 : List (List UInt8)) : Option (Bool) := (top CT).stage 8 [] 8 [1, 0, 1, 1, 1, 1] { env := [(1, (.ptr 16 0)), (3, (.str a1)), (6, (.int .i64 a2)), (39, (.bool a3))], heap := [(16, .box [(.str a4), (.sl .str a5 false)])], salt := 0 }
noncomputable abbrev abacistlaw40_CmdParse (x0 : List UInt8) : Option (Bool) := (top CT).callF 9 (x0)
noncomputable abbrev abacistlaw40_CmdParse_1 (a1 : List UInt8) (a2 : Int) (a3 : Bool) (a4 : List UInt8) (a5 : List (List UInt8)) : Option (Bool) := (top CT).stage 9 [] 9 [1, 0, 1, 1, 1, 1] { env := [(0, (.str a1)), (3, (.ptr 48 0)), (6, (.int .i64 a2)), (32, (.bool a3))], heap := [(48, .box [(.str a4), (.sl .str a5 false)])], salt := 0 }
noncomputable abbrev abacistlaw40_CmdWords (x0 : List UInt8) (x1 : Int) : Option (Bool) := (top CT).callF 10 (x0, x1)
noncomputable abbrev abacistlaw40_CmdWords_1 (a1 : Int) (a2 : List (List UInt8)) (a3 : List (List UInt8)) (a4 : Bool) : Option (Bool) := (top CT).stage 10 [] 10 [1, 0, 1, 1, 1, 1, 1] { env := [(1, (.int .i64 a1)), (11, (.sl .str a2 false)), (12, (.sl .str a3 false)), (46, (.bool a4))], heap := [], salt := 0 }
noncomputable abbrev abacistlaw40_light (x0 : List UInt8 × List (List UInt8)) : Option (Bool) := (top CT).callF 49 (x0)
noncomputable abbrev abacistlaw40_light_1 (a1 : Bool) (a2 : List UInt8) (a3 : List (List UInt8)) : Option (Bool) := (top CT).stage 49 [] 49 [1, 0, 1] { env := [(1, (.ptr 16 0)), (13, (.bool a1))], heap := [(16, .box [(.str a2), (.sl .str a3 false)])], salt := 0 }
noncomputable abbrev abacistlaw40_light_2 (a1 : Int) (a2 : List UInt8) (a3 : List (List UInt8)) : Option (Bool) := (top CT).stage 49 [] 49 [0, 1, 0, 1, 1] { env := [(1, (.ptr 16 0)), (3, (.int .i64 a1))], heap := [(16, .box [(.str a2), (.sl .str a3 false)])], salt := 0 }
noncomputable abbrev abacistlaw40_known : Option (Bool) := (top CT).callF 50 ()
noncomputable abbrev cmd_Line (x0 : List UInt8 × List (List UInt8)) : Option (List UInt8 × Int) := (top CT).callF 51 (x0)
noncomputable abbrev abacistlaw40_given (x0 : List UInt8 × List (List UInt8)) : Option (List UInt8 × List (List UInt8)) := (top CT).callF 52 (x0)
noncomputable abbrev abacistref40_Line (x0 : List UInt8 × List (List UInt8)) : Option (List UInt8 × Int) := (top CT).callF 53 (x0)
noncomputable abbrev cmd_Right (x0 : List UInt8 × List (List UInt8)) : Option (Bool) := (top CT).callF 54 (x0)
noncomputable abbrev cmd_Right_1 (a1 : Bool) (a2 : Int) (a3 : Bool) (a4 : List UInt8) (a5 : List (List UInt8)) : Option (Bool) := (top CT).stage 54 [] 54 [1, 0, 1, 1, 1] { env := [(1, (.ptr 16 0)), (5, (.bool a1)), (6, (.int .i64 a2)), (33, (.bool a3))], heap := [(16, .box [(.str a4), (.sl .str a5 false)])], salt := 0 }
noncomputable abbrev cmd_Right_2 (a1 : Bool) (a2 : Int) (a3 : List (List UInt8)) (a4 : Int) (a5 : Int) : Option (Bool) := (top CT).stage 54 [] 54 [0, 1, 0, 1, 1, 1, 1] { env := [(5, (.bool a1)), (6, (.int .i64 a2)), (35, (.sl .str a3 false)), (36, (.int .i64 a4)), (37, (.int .i64 a5))], heap := [], salt := 0 }
noncomputable abbrev cmd_Right_3 (a1 : Bool) (a2 : Int) (a3 : List UInt8) (a4 : List (List UInt8)) (a5 : Int) (a6 : Int) (a7 : Bool) : Option (Bool) := (top CT).stage 54 [] 54 [1, 0, 1, 0, 0, 1, 1, 0, 0, 1, 0, 1, 1, 1, 1] { env := [(5, (.bool a1)), (6, (.int .i64 a2)), (8, (.str a3)), (35, (.sl .str a4 false)), (36, (.int .i64 a5)), (37, (.int .i64 a6)), (42, (.bool a7))], heap := [], salt := 0 }
noncomputable abbrev cmd_Right_4 (a1 : Bool) (a2 : Int) (a3 : List (List UInt8)) (a4 : Int) (a5 : Int) (a6 : Bool) : Option (Bool) := (top CT).stage 54 [] 54 [1, 1, 1, 0, 1, 0, 0, 1, 1, 0, 0, 1, 0, 1, 1, 1, 1] { env := [(5, (.bool a1)), (6, (.int .i64 a2)), (35, (.sl .str a3 false)), (36, (.int .i64 a4)), (37, (.int .i64 a5)), (53, (.bool a6))], heap := [], salt := 0 }
noncomputable abbrev abacistref40_Right (x0 : List UInt8 × List (List UInt8)) : Option (Bool) := (top CT).callF 55 (x0)
noncomputable abbrev abacistref40_Right_1 (a1 : Bool) (a2 : Int) (a3 : Bool) (a4 : List UInt8) (a5 : List (List UInt8)) : Option (Bool) := (top CT).stage 55 [] 55 [1, 0, 1, 1, 1] { env := [(1, (.ptr 16 0)), (5, (.bool a1)), (6, (.int .i64 a2)), (31, (.bool a3))], heap := [(16, .box [(.str a4), (.sl .str a5 false)])], salt := 0 }
noncomputable abbrev abacistref40_Right_2 (a1 : Bool) (a2 : Int) (a3 : Int) (a4 : List UInt8) (a5 : List (List UInt8)) : Option (Bool) := (top CT).stage 55 [] 55 [0, 1, 0, 1, 1, 1, 1] { env := [(1, (.ptr 16 0)), (5, (.bool a1)), (6, (.int .i64 a2)), (7, (.int .i64 a3))], heap := [(16, .box [(.str a4), (.sl .str a5 false)])], salt := 0 }
noncomputable abbrev abacistref40_Right_3 (a1 : Bool) (a2 : Int) (a3 : Int) (a4 : Bool) (a5 : List UInt8) (a6 : List (List UInt8)) : Option (Bool) := (top CT).stage 55 [] 55 [1, 0, 0, 1, 0, 0, 1, 0, 1, 1, 1, 1] { env := [(1, (.ptr 16 0)), (5, (.bool a1)), (6, (.int .i64 a2)), (7, (.int .i64 a3)), (43, (.bool a4))], heap := [(16, .box [(.str a5), (.sl .str a6 false)])], salt := 0 }
noncomputable abbrev abacistref40_Right_4 (a1 : Bool) (a2 : Int) (a3 : Int) (a4 : Bool) (a5 : List UInt8) (a6 : List (List UInt8)) : Option (Bool) := (top CT).stage 55 [] 55 [1, 1, 1, 0, 0, 1, 0, 0, 1, 0, 1, 1, 1, 1] { env := [(1, (.ptr 16 0)), (5, (.bool a1)), (6, (.int .i64 a2)), (7, (.int .i64 a3)), (65, (.bool a4))], heap := [(16, .box [(.str a5), (.sl .str a6 false)])], salt := 0 }
noncomputable abbrev cmd_Parse (x0 : List UInt8) : Option ((List UInt8 × List (List UInt8)) × Int) := (top CT).callF 56 (x0)
noncomputable abbrev cmd_Parse_1 (a1 : List UInt8) (a2 : Int) (a3 : List UInt8) (a4 : List (List UInt8)) (a5 : List UInt8) (a6 : List (List UInt8)) : Option ((List UInt8 × List (List UInt8)) × Int) := (top CT).stage 56 [] 56 [1, 1, 0, 1, 0, 1, 1, 1, 1, 1] { env := [(2, (.ptr 32 0)), (5, (.str a1)), (7, (.ptr 112 0)), (8, (.int .i64 a2))], heap := [(32, .box [(.str a3), (.sl .str a4 false)]), (112, .box [(.str a5), (.sl .str a6 false)])], salt := 0 }
noncomputable abbrev abacistref40_Same (x0 : List UInt8 × List (List UInt8)) (x1 : List UInt8 × List (List UInt8)) : Option (Bool) := (top CT).callF 57 (x0, x1)
noncomputable abbrev abacistref40_Same_1 (a1 : Bool) (a2 : List UInt8) (a3 : List (List UInt8)) (a4 : List UInt8) (a5 : List (List UInt8)) : Option (Bool) := (top CT).stage 57 [] 57 [1, 0, 1] { env := [(2, (.ptr 32 0)), (3, (.ptr 48 0)), (19, (.bool a1))], heap := [(32, .box [(.str a2), (.sl .str a3 false)]), (48, .box [(.str a4), (.sl .str a5 false)])], salt := 0 }
noncomputable abbrev abacistref40_Same_2 (a1 : Int) (a2 : List UInt8) (a3 : List (List UInt8)) (a4 : List UInt8) (a5 : List (List UInt8)) : Option (Bool) := (top CT).stage 57 [] 57 [0, 1, 0, 1, 1] { env := [(2, (.ptr 32 0)), (3, (.ptr 48 0)), (5, (.int .i64 a1))], heap := [(32, .box [(.str a2), (.sl .str a3 false)]), (48, .box [(.str a4), (.sl .str a5 false)])], salt := 0 }
noncomputable abbrev abacistlaw40_taken (x0 : List UInt8 × List (List UInt8)) : Option (List UInt8 × List (List UInt8)) := (top CT).callF 58 (x0)
noncomputable abbrev abacistref40_Parse (x0 : List UInt8) : Option ((List UInt8 × List (List UInt8)) × Int) := (top CT).callF 59 (x0)
noncomputable abbrev abacistref40_Parse_1 (a1 : List UInt8) (a2 : List UInt8) (a3 : Bool) (a4 : Int) (a5 : Bool) (a6 : List (List UInt8)) (a7 : List UInt8) (a8 : List (List UInt8)) (a9 : List UInt8) : Option ((List UInt8 × List (List UInt8)) × Int) := (top CT).stage 59 [] 59 [0, 0, 1, 1, 1, 1, 1, 1] { env := [(0, (.str a1)), (2, (.ptr 32 0)), (5, (.str a2)), (6, (.bool a3)), (7, (.ptr 112 0)), (9, (.int .i64 a4)), (10, (.bool a5))], heap := [(1099511627776, .arr .str a6), (32, .box [(.str a7), (.sl .str a8 false)]), (112, .box [(.str a9), (.who 1099511627776 false)])], salt := 0 }
noncomputable abbrev abacistref40_Parse_2 (a1 : List UInt8) (a2 : List UInt8) (a3 : Int) (a4 : Bool) (a5 : Bool) (a6 : List (List UInt8)) (a7 : List UInt8) (a8 : List (List UInt8)) (a9 : List UInt8) : Option ((List UInt8 × List (List UInt8)) × Int) := (top CT).stage 59 [] 59 [1, 0, 0, 0, 0, 1, 1, 1, 1, 1, 1] { env := [(0, (.str a1)), (2, (.ptr 32 0)), (5, (.str a2)), (7, (.ptr 112 0)), (9, (.int .i64 a3)), (10, (.bool a4)), (40, (.bool a5))], heap := [(1099511627779, .arr .str a6), (32, .box [(.str a7), (.sl .str a8 false)]), (112, .box [(.str a9), (.who 1099511627779 false)])], salt := 0 }
noncomputable abbrev abacistref40_Parse_3 (a1 : List UInt8) (a2 : List UInt8) (a3 : Int) (a4 : Bool) (a5 : Bool) (a6 : List (List UInt8)) (a7 : List UInt8) (a8 : List (List UInt8)) (a9 : List UInt8) : Option ((List UInt8 × List (List UInt8)) × Int) := (top CT).stage 59 [] 59 [1, 0, 0, 1, 0, 0, 0, 1, 1, 1, 1, 1, 1] { env := [(0, (.str a1)), (2, (.ptr 32 0)), (5, (.str a2)), (7, (.ptr 112 0)), (9, (.int .i64 a3)), (10, (.bool a4)), (49, (.bool a5))], heap := [(1099511627778, .arr .str a6), (32, .box [(.str a7), (.sl .str a8 false)]), (112, .box [(.str a9), (.who 1099511627778 false)])], salt := 0 }
noncomputable abbrev abacistref40_Parse_4 (a1 : Bool) (a2 : List (List UInt8)) (a3 : List UInt8) (a4 : List (List UInt8)) (a5 : List UInt8) : Option ((List UInt8 × List (List UInt8)) × Int) := (top CT).stage 59 [] 59 [1, 0, 1, 1, 1, 1, 1, 1, 1] { env := [(2, (.ptr 32 0)), (7, (.ptr 112 0)), (76, (.bool a1))], heap := [(1099511627777, .arr .str a2), (32, .box [(.str a3), (.sl .str a4 false)]), (112, .box [(.str a5), (.who 1099511627777 false)])], salt := 0 }
noncomputable abbrev cmd_Many (x0 : List UInt8) : Option (Int × Int × Bool) := (top CT).callF 60 (x0)
noncomputable abbrev cmd_Many_1 (a1 : List UInt8) (a2 : Int) (a3 : List UInt8) (a4 : Bool) : Option (Int × Int × Bool) := (top CT).stage 60 [] 60 [1, 0, 1, 1, 0, 0, 0, 0, 0, 0, 0, 0, 0, 0, 0, 0, 0, 0, 0, 0, 1, 0, 1, 1] { env := [(0, (.str a1)), (5, (.int .i64 a2)), (6, (.str a3)), (11, (.bool a4))], heap := [], salt := 0 }
noncomputable abbrev cmd_Many_2 (a1 : List UInt8) (a2 : Int) : Option (Int × Int × Bool) := (top CT).stage 60 [] 60 [1, 0, 0, 0, 0, 0, 0, 0, 1, 0, 1, 1] { env := [(0, (.str a1)), (5, (.int .i64 a2))], heap := [], salt := 0 }
noncomputable abbrev cmd_Many_3 (a1 : List UInt8) (a2 : Int) (a3 : List UInt8) (a4 : Bool) : Option (Int × Int × Bool) := (top CT).stage 60 [] 60 [1, 0, 1, 1, 1, 0, 0, 0, 0, 0, 0, 0, 0, 0, 0, 0, 0, 0, 0, 0, 0, 1, 0, 1, 1] { env := [(0, (.str a1)), (5, (.int .i64 a2)), (6, (.str a3)), (14, (.bool a4))], heap := [], salt := 0 }
noncomputable abbrev cmd_Many_4 (a1 : List UInt8) (a2 : Int) : Option (Int × Int × Bool) := (top CT).stage 60 [] 60 [1, 0, 0, 0, 1, 0, 1, 1] { env := [(0, (.str a1)), (5, (.int .i64 a2))], heap := [], salt := 0 }
noncomputable abbrev cmd_Many_5 (a1 : List UInt8) (a2 : Int) (a3 : List UInt8) (a4 : Bool) : Option (Int × Int × Bool) := (top CT).stage 60 [] 60 [1, 0, 1, 1, 1, 1, 0, 0, 0, 0, 0, 0, 0, 0, 0, 0, 0, 0, 0, 0, 0, 0, 1, 0, 1, 1] { env := [(0, (.str a1)), (5, (.int .i64 a2)), (6, (.str a3)), (17, (.bool a4))], heap := [], salt := 0 }
noncomputable abbrev cmd_Many_6 (a1 : List UInt8) (a2 : Int) : Option (Int × Int × Bool) := (top CT).stage 60 [] 60 [1, 1, 1] { env := [(0, (.str a1)), (5, (.int .i64 a2))], heap := [], salt := 0 }
noncomputable abbrev cmd_Many_7 (a1 : List UInt8) (a2 : Int) (a3 : List UInt8) (a4 : Bool) : Option (Int × Int × Bool) := (top CT).stage 60 [] 60 [1, 0, 1, 1, 1, 1, 1, 0, 0, 0, 0, 0, 0, 0, 0, 0, 0, 0, 0, 0, 0, 0, 0, 1, 0, 1, 1] { env := [(0, (.str a1)), (5, (.int .i64 a2)), (6, (.str a3)), (21, (.bool a4))], heap := [], salt := 0 }
noncomputable abbrev cmd_Many_8 (a1 : List UInt8) (a2 : Int) (a3 : Bool) : Option (Int × Int × Bool) := (top CT).stage 60 [] 60 [1, 1, 1, 1, 1, 1, 1, 0, 0, 0, 0, 0, 0, 0, 0, 0, 0, 0, 0, 0, 0, 0, 0, 1, 0, 1, 1] { env := [(0, (.str a1)), (5, (.int .i64 a2)), (26, (.bool a3))], heap := [], salt := 0 }
noncomputable abbrev abacistref40_Many (x0 : List UInt8) : Option (Int × Int × Bool) := (top CT).callF 61 (x0)
noncomputable abbrev abacistref40_Many_1 (a1 : List UInt8) (a2 : Bool) : Option (Int × Int × Bool) := (top CT).stage 61 [] 61 [1, 1, 1, 0, 1, 1] { env := [(5, (.str a1)), (8, (.bool a2))], heap := [], salt := 0 }
noncomputable abbrev abacistref40_Many_2 (a1 : List UInt8) (a2 : Bool) : Option (Int × Int × Bool) := (top CT).stage 61 [] 61 [1, 1, 1, 1, 1, 0, 1, 1] { env := [(5, (.str a1)), (12, (.bool a2))], heap := [], salt := 0 }
noncomputable abbrev abacistref40_Many_3 (a1 : List UInt8) (a2 : Bool) : Option (Int × Int × Bool) := (top CT).stage 61 [] 61 [1, 1, 1, 1, 1, 1, 1, 0, 1, 1] { env := [(5, (.str a1)), (19, (.bool a2))], heap := [], salt := 0 }
noncomputable abbrev abacistref40_Many_4 (a1 : List UInt8) (a2 : Bool) : Option (Int × Int × Bool) := (top CT).stage 61 [] 61 [1, 1, 1, 1, 1, 1, 1, 1, 1, 0, 1, 1] { env := [(5, (.str a1)), (22, (.bool a2))], heap := [], salt := 0 }
noncomputable abbrev abacistref40_Many_5 (a1 : List UInt8) (a2 : Bool) : Option (Int × Int × Bool) := (top CT).stage 61 [] 61 [1, 1, 1, 1, 1, 1, 1, 1, 1, 1, 1, 1, 1, 0, 1, 1] { env := [(5, (.str a1)), (27, (.bool a2))], heap := [], salt := 0 }
noncomputable abbrev cmd_Ops : Option (List (List UInt8)) := (top CT).callF 62 ()
noncomputable abbrev abacistref40_Ops : Option (List (List UInt8)) := (top CT).callF 63 ()
noncomputable abbrev cmd_line (x0 : List UInt8 × List (List UInt8)) : Option (List UInt8) := (top CT).callF 90 (x0)
noncomputable abbrev abacistref40_line (x0 : List UInt8 × List (List UInt8)) : Option (List UInt8) := (top CT).callF 91 (x0)
noncomputable abbrev abacistref40_line_1 (a1 : List UInt8) (a2 : Int) (a3 : List UInt8) (a4 : List (List UInt8)) : Option (List UInt8) := (top CT).stage 91 [] 91 [0, 1, 0, 1, 1] { env := [(1, (.ptr 16 0)), (3, (.str a1)), (4, (.int .i64 a2))], heap := [(16, .box [(.str a3), (.sl .str a4 false)])], salt := 0 }
noncomputable abbrev slices_Contains_string_string (x0 : List (List UInt8)) (x1 : List UInt8) : Option (Bool) := (top CT).callF 92 (x0, x1)
noncomputable abbrev cmd_within (x0 : List UInt8) (x1 : Int) : Option (Bool) := (top CT).callF 93 (x0, x1)
noncomputable abbrev cmd_within_1 (a1 : Int) (a2 : List Int) (a3 : Int) (a4 : Int) : Option (Bool) := (top CT).stage 93 [] 93 [0, 1, 0, 1] { env := [(1, (.int .u8 a1)), (8, (.sl (.int .u8) a2 false)), (9, (.int .i64 a3)), (10, (.int .i64 a4))], heap := [], salt := 0 }
noncomputable abbrev cmd_within_2 (a1 : Int) (a2 : List Int) (a3 : Int) (a4 : Int) (a5 : Bool) : Option (Bool) := (top CT).stage 93 [] 93 [1, 1, 0, 0, 1, 1, 0, 0, 1, 0, 1] { env := [(1, (.int .u8 a1)), (8, (.sl (.int .u8) a2 false)), (9, (.int .i64 a3)), (10, (.int .i64 a4)), (20, (.bool a5))], heap := [], salt := 0 }
noncomputable abbrev abacistref40_word (x0 : List UInt8) : Option (Bool) := (top CT).callF 94 (x0)
noncomputable abbrev abacistref40_word_1 (a1 : List UInt8) (a2 : List (List UInt8)) (a3 : Int) : Option (Bool) := (top CT).stage 94 [] 94 [0, 1, 0, 1, 1] { env := [(0, (.str a1)), (3, (.sl .str a2 false)), (4, (.int .i64 a3))], heap := [], salt := 0 }
noncomputable abbrev abacistref40_plain (x0 : List UInt8) (x1 : Int) : Option (Bool) := (top CT).callF 95 (x0, x1)
noncomputable abbrev abacistref40_plain_1 (a1 : List UInt8) (a2 : Int) (a3 : Int) : Option (Bool) := (top CT).stage 95 [] 95 [0, 1, 0, 1] { env := [(0, (.str a1)), (1, (.int .u8 a2)), (5, (.int .i64 a3))], heap := [], salt := 0 }
noncomputable abbrev abacistref40_plain_2 (a1 : List UInt8) (a2 : Int) (a3 : Int) (a4 : Bool) : Option (Bool) := (top CT).stage 95 [] 95 [1, 0, 0, 1, 0, 0, 1, 0, 1] { env := [(0, (.str a1)), (1, (.int .u8 a2)), (5, (.int .i64 a3)), (22, (.bool a4))], heap := [], salt := 0 }
noncomputable abbrev strings_Cut (x0 : List UInt8) (x1 : List UInt8) : Option (List UInt8 × List UInt8 × Bool) := (top CT).callF 96 (x0, x1)
noncomputable abbrev cmd_parted (x0 : List UInt8) (x1 : Int) : Option (List (List UInt8)) := (top CT).callF 97 (x0, x1)
noncomputable abbrev cmd_parted_1 (a1 : Int) (a2 : Bool) (a3 : List (List UInt8)) : Option (List (List UInt8)) := (top CT).stage 97 [] 97 [1, 0, 1, 1] { env := [(1, (.int .i64 a1)), (5, (.who 1099511627780 false)), (16, (.bool a2))], heap := [(1099511627780, .arr .str a3)], salt := 0 }
noncomputable abbrev abacistref40_cut (x0 : List UInt8) : Option (List UInt8 × List UInt8 × Bool) := (top CT).callF 98 (x0)
noncomputable abbrev abacistref40_cut_1 (a1 : List UInt8) (a2 : Int) : Option (List UInt8 × List UInt8 × Bool) := (top CT).stage 98 [] 98 [0, 1, 0, 1] { env := [(0, (.str a1)), (5, (.int .i64 a2))], heap := [], salt := 0 }
noncomputable abbrev strings_Join (x0 : List (List UInt8)) (x1 : List UInt8) : Option (List UInt8) := (top CT).callF 116 (x0, x1)
noncomputable abbrev slices_Index_string_string (x0 : List (List UInt8)) (x1 : List UInt8) : Option (Int) := (top CT).callF 117 (x0, x1)
noncomputable abbrev slices_Index_string_string_1 (a1 : List (List UInt8)) (a2 : List UInt8) (a3 : Int) (a4 : Int) : Option (Int) := (top CT).stage 117 [] 117 [0, 1, 0, 1] { env := [(0, (.sl .str a1 false)), (1, (.str a2)), (7, (.int .i64 a3)), (8, (.int .i64 a4))], heap := [], salt := 0 }
noncomputable abbrev strings_Split (x0 : List UInt8) (x1 : List UInt8) : Option (List (List UInt8)) := (top CT).callF 119 (x0, x1)
end Go.Proofs.YtcdcijhfjiahkaaDoorR.K
