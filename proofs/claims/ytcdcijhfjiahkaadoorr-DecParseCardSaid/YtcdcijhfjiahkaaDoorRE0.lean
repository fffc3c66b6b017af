/- The machine at this seat: tables, names. -/
import Derived.Test.YtcdcijhfjiahkaaDoorRKM
import Derived.Test.YtcdcijhfjiahkaaDoorRKHdec
import Derived.Test.YtcdcijhfjiahkaaDoorRProg
set_option linter.unusedVariables false
set_option maxRecDepth 100000
namespace Go.Proofs.YtcdcijhfjiahkaaDoorR.K
open Go
def look {α : Type} : List (Nat × α) → Nat → Option α
  | [], _ => none
  | (u, v) :: l, t => match Nat.beq u t with
    | true => some v
    | false => look l t
def peq : Path → Path → Bool
  | [], [] => true
  | a :: p, b :: q => Nat.beq a b && peq p q
  | _, _ => false
def lookP : List (Nat × Path × Ann) → Nat → Path → Option Ann
  | [], _, _ => none
  | (g, u, v) :: l, f, t => match Nat.beq g f && peq u t with
    | true => some v
    | false => lookP l f t
def Inv (w : World) : Prop := MaxLen w
theorem inv_max : ∀ w, Inv w → MaxLen w := fun _ h => h
theorem inv_keeps : ∀ w w', Inv w → RowKit.Below w.heap.size w w' → Inv w' := maxLen_keeps
noncomputable def ti5 : TI := { sh := (.int .u8), size := 1, bytes := 1, zero := [(.int .u8 0)], ty := some (.int .u8), fl := [], eq := false }
noncomputable def ti9 : TI := { sh := .str, size := 1, bytes := 16, zero := [(.str [])], ty := some .str, fl := [], eq := false }
noncomputable def ti22 : TI := { sh := (.int .u64), size := 1, bytes := 8, zero := [(.int .u64 0)], ty := some (.int .u64), fl := [], eq := false }
noncomputable def ti89 : TI := { sh := (.sl 5), size := 1, bytes := 24, zero := [.nilsl], ty := some (.sl (.int .u8)), fl := [], eq := false }
noncomputable def tis : List (Nat × TI) := [(5, ti5), (9, ti9), (22, ti22), (89, ti89)]
noncomputable def fns : List (Nat × Func) := [(11, Tryd.f11), (12, Tryd.f12), (14, Tryd.f14), (15, Tryd.f15), (16, Tryd.f16), (17, Tryd.f17), (18, Tryd.f18), (43, Tryd.f43), (44, Tryd.f44), (47, Tryd.f47), (48, Tryd.f48), (64, Tryd.f64), (65, Tryd.f65), (66, Tryd.f66), (67, Tryd.f67), (68, Tryd.f68), (69, Tryd.f69), (70, Tryd.f70), (71, Tryd.f71), (99, Tryd.f99), (103, Tryd.f103), (104, Tryd.f104), (105, Tryd.f105), (106, Tryd.f106)]
def inls : List Nat := []
noncomputable def ptsL : List (Nat × List Ty) := [(11, [.str]), (12, [.str]), (14, [.str]), (15, [(.int .u64)]), (16, [(.int .u64)]), (17, [.str]), (18, [.str]), (43, [.str, .str]), (44, [.str, .str]), (47, [.str, .str]), (48, [.str, .str]), (64, []), (65, [.str]), (66, [.str]), (67, [.str]), (68, [.str]), (69, [.str]), (70, [.str]), (71, [.str]), (99, [.str, .str]), (103, [.str, (.int .u64)]), (104, [.str, .str]), (105, [.str]), (106, [.str, .str])]
noncomputable def rtsL : List (Nat × List Ty) := [(11, [.bool]), (12, [.bool]), (14, [(.int .u64), .bool]), (15, [.str]), (16, [.str]), (17, [.str]), (18, [.str]), (43, [.str]), (44, [.str]), (47, [.str]), (48, [.str]), (64, [.bool]), (65, [.str]), (66, [(.int .i64), (.int .i64)]), (67, [(.int .i64), (.int .i64)]), (68, [.str, (.int .i64)]), (69, [.str]), (70, [(.int .i64)]), (71, [.str, (.int .i64)]), (99, [.str, .str, (.int .i64)]), (103, [(.int .i64)]), (104, [(.int .i64)]), (105, [.bool]), (106, [.str, .str, (.int .i64)])]
noncomputable def annL : List (Nat × List (Nat × Path × Ann)) := [
  (12, [(12, [1, 0, 1, 1, 1], { live := [(0, .keep), (3, .keep), (6, .keep), (25, .keep)], toks := [] }),
    (12, [0, 0, 1, 1, 1, 1, 1, 1], { live := [(3, .keep), (7, .keep)], toks := [] }),
    (12, [1, 0, 0, 0, 0, 1, 1, 1, 1, 1, 1], { live := [(3, .keep), (7, .keep), (37, .keep)], toks := [] })]),
  (68, [(68, [1, 0, 0, 1], { live := [(0, .keep), (10, .keep)], toks := [] }),
    (68, [0, 0, 1, 1, 1], { live := [(0, .keep), (4, .keep)], toks := [] }),
    (68, [0, 1, 0, 1, 1, 0, 1, 0, 0, 0, 1, 1, 1], { live := [(0, .keep), (4, .keep), (5, .keep), (6, .keep), (7, .keep), (30, .im (.sl (.int .u8))), (31, .keep), (32, .keep)], toks := [] })]),
  (69, [(69, [0, 1, 0, 1, 1, 1], { live := [(0, .keep), (3, .keep), (4, .keep)], toks := [] }),
    (69, [1, 0, 0, 0, 1, 0, 1, 1, 1], { live := [(0, .keep), (3, .keep), (4, .keep), (21, .keep)], toks := [] })]),
  (71, [(71, [0, 1, 0, 1], { live := [(0, .keep), (4, .keep)], toks := [] }),
    (71, [1, 0, 0, 1, 0, 0, 1, 0, 1], { live := [(0, .keep), (4, .keep), (22, .keep)], toks := [] }),
    (71, [0, 1, 0, 1, 1, 1, 1, 1], { live := [(0, .keep), (5, .keep), (6, .keep)], toks := [] })]),
  (103, [(103, [0, 0, 1, 1], { live := [(0, .keep), (1, .keep), (5, .keep)], toks := [] }),
    (103, [1, 0, 1, 0, 1, 0, 0, 0, 1, 1], { live := [(1, .keep), (5, .keep), (6, .keep), (24, .keep)], toks := [] })]),
  (104, [(104, [0, 1, 0, 1, 1], { live := [(0, .keep), (1, .keep), (5, .keep), (6, .keep)], toks := [] }),
    (104, [1, 0, 0, 0, 1, 0, 1, 1], { live := [(0, .keep), (1, .keep), (5, .keep), (6, .keep), (15, .keep)], toks := [] })]),
  (105, [(105, [0, 1, 0, 1], { live := [(6, .im (.sl (.int .u8))), (7, .keep), (8, .keep)], toks := [] }),
    (105, [1, 1, 0, 0, 1, 1, 0, 0, 1, 0, 1], { live := [(6, .im (.sl (.int .u8))), (7, .keep), (8, .keep), (17, .keep)], toks := [] })])]
noncomputable def extL : List ((j : Nat) × (den (tyL ((look ptsL j).getD [])) → Option (den (tyL ((look rtsL j).getD []))))) := [⟨14, Q.smallQ⟩, ⟨15, Q.ofQ⟩, ⟨16, Q.ofQ⟩, ⟨17, Q.trimQ⟩, ⟨18, Q.trimQ⟩, ⟨43, Q.addQ⟩, ⟨44, Q.addQ⟩, ⟨47, Q.mulQ⟩, ⟨48, Q.mulQ⟩, ⟨65, Q.decQ⟩, ⟨99, Q.divQ⟩, ⟨106, Q.divQ⟩]
noncomputable def CT : Ctx where
  ti := look tis
  fn := look fns
  disp := fun _ f _ => match inls.elem f with
    | true => .inl
    | false => .spec f
  fid := fun i => i
  pts := fun i => (look ptsL i).getD []
  rts := fun i => (look rtsL i).getD []
  ext := lookE extL
  ann := fun i f p => match look annL i with
    | some l => lookP l f p
    | none => none
  inv := Inv
noncomputable abbrev abacistlaw03_DecTexts (x0 : List UInt8) : Option (Bool) := (top CT).callF 11 (x0)
noncomputable abbrev abacistlaw03_DecParse (x0 : List UInt8) : Option (Bool) := (top CT).callF 12 (x0)
noncomputable abbrev abacistlaw03_DecParse_1 (a1 : List UInt8) (a2 : List UInt8) (a3 : Int) (a4 : Bool) : Option (Bool) := (top CT).stage 12 [] 12 [1, 0, 1, 1, 1] { env := [(0, (.str a1)), (3, (.str a2)), (6, (.int .i64 a3)), (25, (.bool a4))], heap := [], salt := 0 }
noncomputable abbrev abacistlaw03_DecParse_2 (a1 : List UInt8) (a2 : List UInt8) : Option (Bool) := (top CT).stage 12 [] 12 [0, 0, 1, 1, 1, 1, 1, 1] { env := [(3, (.str a1)), (7, (.str a2))], heap := [], salt := 0 }
noncomputable abbrev abacistlaw03_DecParse_3 (a1 : List UInt8) (a2 : List UInt8) (a3 : Bool) : Option (Bool) := (top CT).stage 12 [] 12 [1, 0, 0, 0, 0, 1, 1, 1, 1, 1, 1] { env := [(3, (.str a1)), (7, (.str a2)), (37, (.bool a3))], heap := [], salt := 0 }
noncomputable abbrev abacistref01_Small (x0 : List UInt8) : Option (Int × Bool) := (top CT).callF 14 (x0)
noncomputable abbrev nat_Of (x0 : Int) : Option (List UInt8) := (top CT).callF 15 (x0)
noncomputable abbrev abacistref01_Of (x0 : Int) : Option (List UInt8) := (top CT).callF 16 (x0)
noncomputable abbrev nat_Trim (x0 : List UInt8) : Option (List UInt8) := (top CT).callF 17 (x0)
noncomputable abbrev abacistref01_Trim (x0 : List UInt8) : Option (List UInt8) := (top CT).callF 18 (x0)
noncomputable abbrev nat_Add (x0 : List UInt8) (x1 : List UInt8) : Option (List UInt8) := (top CT).callF 43 (x0, x1)
noncomputable abbrev abacistref01_Add (x0 : List UInt8) (x1 : List UInt8) : Option (List UInt8) := (top CT).callF 44 (x0, x1)
noncomputable abbrev nat_Mul (x0 : List UInt8) (x1 : List UInt8) : Option (List UInt8) := (top CT).callF 47 (x0, x1)
noncomputable abbrev abacistref01_Mul (x0 : List UInt8) (x1 : List UInt8) : Option (List UInt8) := (top CT).callF 48 (x0, x1)
noncomputable abbrev abacistlaw03_known : Option (Bool) := (top CT).callF 64 ()
noncomputable abbrev dec_Text (x0 : List UInt8) : Option (List UInt8) := (top CT).callF 65 (x0)
noncomputable abbrev dec_Twos (x0 : List UInt8) : Option (Int × Int) := (top CT).callF 66 (x0)
noncomputable abbrev abacistref03_Twos (x0 : List UInt8) : Option (Int × Int) := (top CT).callF 67 (x0)
noncomputable abbrev dec_Parse (x0 : List UInt8) : Option (List UInt8 × Int) := (top CT).callF 68 (x0)
noncomputable abbrev dec_Parse_1 (a1 : List UInt8) (a2 : Bool) : Option (List UInt8 × Int) := (top CT).stage 68 [] 68 [1, 0, 0, 1] { env := [(0, (.str a1)), (10, (.bool a2))], heap := [], salt := 0 }
noncomputable abbrev dec_Parse_2 (a1 : List UInt8) (a2 : List UInt8) : Option (List UInt8 × Int) := (top CT).stage 68 [] 68 [0, 0, 1, 1, 1] { env := [(0, (.str a1)), (4, (.str a2))], heap := [], salt := 0 }
noncomputable abbrev dec_Parse_3 (a1 : List UInt8) (a2 : List UInt8) (a3 : Int) (a4 : Int) (a5 : Int) (a6 : List Int) (a7 : Int) (a8 : Int) : Option (List UInt8 × Int) := (top CT).stage 68 [] 68 [0, 1, 0, 1, 1, 0, 1, 0, 0, 0, 1, 1, 1] { env := [(0, (.str a1)), (4, (.str a2)), (5, (.int .i64 a3)), (6, (.int .u64 a4)), (7, (.int .u64 a5)), (30, (.sl (.int .u8) a6 false)), (31, (.int .i64 a7)), (32, (.int .i64 a8))], heap := [], salt := 0 }
noncomputable abbrev abacistref03_Text (x0 : List UInt8) : Option (List UInt8) := (top CT).callF 69 (x0)
noncomputable abbrev abacistref03_Text_1 (a1 : List UInt8) (a2 : List UInt8) (a3 : Int) : Option (List UInt8) := (top CT).stage 69 [] 69 [0, 1, 0, 1, 1, 1] { env := [(0, (.str a1)), (3, (.str a2)), (4, (.int .i64 a3))], heap := [], salt := 0 }
noncomputable abbrev abacistref03_Text_2 (a1 : List UInt8) (a2 : List UInt8) (a3 : Int) (a4 : Bool) : Option (List UInt8) := (top CT).stage 69 [] 69 [1, 0, 0, 0, 1, 0, 1, 1, 1] { env := [(0, (.str a1)), (3, (.str a2)), (4, (.int .i64 a3)), (21, (.bool a4))], heap := [], salt := 0 }
noncomputable abbrev dec_Digits (x0 : List UInt8) : Option (Int) := (top CT).callF 70 (x0)
noncomputable abbrev abacistref03_Parse (x0 : List UInt8) : Option (List UInt8 × Int) := (top CT).callF 71 (x0)
noncomputable abbrev abacistref03_Parse_1 (a1 : List UInt8) (a2 : Int) : Option (List UInt8 × Int) := (top CT).stage 71 [] 71 [0, 1, 0, 1] { env := [(0, (.str a1)), (4, (.int .i64 a2))], heap := [], salt := 0 }
noncomputable abbrev abacistref03_Parse_2 (a1 : List UInt8) (a2 : Int) (a3 : Bool) : Option (List UInt8 × Int) := (top CT).stage 71 [] 71 [1, 0, 0, 1, 0, 0, 1, 0, 1] { env := [(0, (.str a1)), (4, (.int .i64 a2)), (22, (.bool a3))], heap := [], salt := 0 }
noncomputable abbrev abacistref03_Parse_3 (a1 : List UInt8) (a2 : List UInt8) (a3 : Int) : Option (List UInt8 × Int) := (top CT).stage 71 [] 71 [0, 1, 0, 1, 1, 1, 1, 1] { env := [(0, (.str a1)), (5, (.str a2)), (6, (.int .i64 a3))], heap := [], salt := 0 }
noncomputable abbrev divide_DivMod (x0 : List UInt8) (x1 : List UInt8) : Option (List UInt8 × List UInt8 × Int) := (top CT).callF 99 (x0, x1)
noncomputable abbrev dec_often (x0 : List UInt8) (x1 : Int) : Option (Int) := (top CT).callF 103 (x0, x1)
noncomputable abbrev dec_often_1 (a1 : List UInt8) (a2 : Int) (a3 : Int) : Option (Int) := (top CT).stage 103 [] 103 [0, 0, 1, 1] { env := [(0, (.str a1)), (1, (.int .u64 a2)), (5, (.int .i64 a3))], heap := [], salt := 0 }
noncomputable abbrev dec_often_2 (a1 : Int) (a2 : Int) (a3 : List UInt8) (a4 : Bool) : Option (Int) := (top CT).stage 103 [] 103 [1, 0, 1, 0, 1, 0, 0, 0, 1, 1] { env := [(1, (.int .u64 a1)), (5, (.int .i64 a2)), (6, (.str a3)), (24, (.bool a4))], heap := [], salt := 0 }
noncomputable abbrev abacistref03_often (x0 : List UInt8) (x1 : List UInt8) : Option (Int) := (top CT).callF 104 (x0, x1)
noncomputable abbrev abacistref03_often_1 (a1 : List UInt8) (a2 : List UInt8) (a3 : Int) (a4 : Int) : Option (Int) := (top CT).stage 104 [] 104 [0, 1, 0, 1, 1] { env := [(0, (.str a1)), (1, (.str a2)), (5, (.int .i64 a3)), (6, (.int .i64 a4))], heap := [], salt := 0 }
noncomputable abbrev abacistref03_often_2 (a1 : List UInt8) (a2 : List UInt8) (a3 : Int) (a4 : Int) (a5 : Bool) : Option (Int) := (top CT).stage 104 [] 104 [1, 0, 0, 0, 1, 0, 1, 1] { env := [(0, (.str a1)), (1, (.str a2)), (5, (.int .i64 a3)), (6, (.int .i64 a4)), (15, (.bool a5))], heap := [], salt := 0 }
noncomputable abbrev dec_odd (x0 : List UInt8) : Option (Bool) := (top CT).callF 105 (x0)
noncomputable abbrev dec_odd_1 (a1 : List Int) (a2 : Int) (a3 : Int) : Option (Bool) := (top CT).stage 105 [] 105 [0, 1, 0, 1] { env := [(6, (.sl (.int .u8) a1 false)), (7, (.int .i64 a2)), (8, (.int .i64 a3))], heap := [], salt := 0 }
noncomputable abbrev dec_odd_2 (a1 : List Int) (a2 : Int) (a3 : Int) (a4 : Bool) : Option (Bool) := (top CT).stage 105 [] 105 [1, 1, 0, 0, 1, 1, 0, 0, 1, 0, 1] { env := [(6, (.sl (.int .u8) a1 false)), (7, (.int .i64 a2)), (8, (.int .i64 a3)), (17, (.bool a4))], heap := [], salt := 0 }
noncomputable abbrev abacistref02_DivMod (x0 : List UInt8) (x1 : List UInt8) : Option (List UInt8 × List UInt8 × Int) := (top CT).callF 106 (x0, x1)
end Go.Proofs.YtcdcijhfjiahkaaDoorR.K
