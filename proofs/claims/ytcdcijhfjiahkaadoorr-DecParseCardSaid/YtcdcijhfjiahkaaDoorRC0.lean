/- The machine at this seat: tables, names. -/
import Derived.Test.YtcdcijhfjiahkaaDoorRKM
import Derived.Test.YtcdcijhfjiahkaaDoorRB3
import Derived.Test.YtcdcijhfjiahkaaDoorRKHcmp
import Derived.Test.YtcdcijhfjiahkaaDoorRKHtextDiv
import Derived.Test.YtcdcijhfjiahkaaDoorRKHshort
import Derived.Test.YtcdcijhfjiahkaaDoorRProg
set_option linter.unusedVariables false
set_option maxRecDepth 100000
namespace Go.Proofs.YtcdcijhfjiahkaaDoorR.C
open Go Go.Proofs.YtcdcijhfjiahkaaDoorR.K
def look {α : Type} : List (Nat × α) → Nat → Option α
  | [], _ => none
  | (u, v) :: l, t => match Nat.beq u t with
    | true => some v
    | false => look l t
def peq : Path → Path → Bool
  | [], [] => true
  | a :: p, b :: q => Nat.beq a b && peq p q
  | _, _ => false
def lookP : List (Nat × Path × Ann) → Nat → Path → Option Ann
  | [], _, _ => none
  | (g, u, v) :: l, f, t => match Nat.beq g f && peq u t with
    | true => some v
    | false => lookP l f t
def Inv (w : World) : Prop := MaxLen w
theorem inv_max : ∀ w, Inv w → MaxLen w := fun _ h => h
theorem inv_keeps : ∀ w w', Inv w → RowKit.Below w.heap.size w w' → Inv w' := maxLen_keeps
noncomputable def ti3 : TI := { sh := (.int .i64), size := 1, bytes := 8, zero := [(.int .i64 0)], ty := some (.int .i64), fl := [], eq := false }
noncomputable def ti5 : TI := { sh := (.int .u8), size := 1, bytes := 1, zero := [(.int .u8 0)], ty := some (.int .u8), fl := [], eq := false }
noncomputable def ti9 : TI := { sh := .str, size := 1, bytes := 16, zero := [(.str [])], ty := some .str, fl := [], eq := false }
noncomputable def ti22 : TI := { sh := (.int .u64), size := 1, bytes := 8, zero := [(.int .u64 0)], ty := some (.int .u64), fl := [], eq := false }
noncomputable def ti82 : TI := { sh := (.sl 86), size := 1, bytes := 24, zero := [.nilsl], ty := some (.sl (.int .u32)), fl := [], eq := false }
noncomputable def ti86 : TI := { sh := (.int .u32), size := 1, bytes := 4, zero := [(.int .u32 0)], ty := some (.int .u32), fl := [], eq := false }
noncomputable def ti89 : TI := { sh := (.sl 5), size := 1, bytes := 24, zero := [.nilsl], ty := some (.sl (.int .u8)), fl := [], eq := false }
noncomputable def ti96 : TI := { sh := (.sl 3), size := 1, bytes := 24, zero := [.nilsl], ty := some (.sl (.int .i64)), fl := [], eq := false }
noncomputable def ti133 : TI := { sh := (.sl 86), size := 1, bytes := 24, zero := [.nilsl], ty := some (.sl (.int .u32)), fl := [], eq := false }
noncomputable def tis : List (Nat × TI) := [(3, ti3), (5, ti5), (9, ti9), (22, ti22), (82, ti82), (86, ti86), (89, ti89), (96, ti96), (133, ti133)]
noncomputable def fns : List (Nat × Func) := [(13, Tryd.f13), (14, Tryd.f14), (15, Tryd.f15), (16, Tryd.f16), (17, Tryd.f17), (18, Tryd.f18), (41, Tryd.f41), (42, Tryd.f42), (43, Tryd.f43), (44, Tryd.f44), (46, Tryd.f46), (47, Tryd.f47), (48, Tryd.f48), (72, Tryd.f72), (73, Tryd.f73), (74, Tryd.f74), (75, Tryd.f75), (76, Tryd.f76), (87, Tryd.f87), (88, Tryd.f88), (89, Tryd.f89), (99, Tryd.f99), (100, Tryd.f100), (106, Tryd.f106), (107, Tryd.f107), (120, Tryd.f120), (121, Tryd.f121), (122, Tryd.f122), (123, Tryd.f123), (125, Tryd.f125), (135, Tryd.f135), (136, Tryd.f136), (137, Tryd.f137), (140, Tryd.f140), (138, Tryd.f138), (139, Tryd.f139)]
def inls : List Nat := [138, 139]
noncomputable def ptsL : List (Nat × List Ty) := [(13, [.str]), (14, [.str]), (15, [(.int .u64)]), (16, [(.int .u64)]), (17, [.str]), (18, [.str]), (41, [.str, .str]), (42, [.str, .str]), (43, [.str, .str]), (44, [.str, .str]), (46, [.str, .str]), (47, [.str, .str]), (48, [.str, .str]), (72, [.str]), (73, [(.sl (.int .u32)), (.int .i64)]), (74, [(.sl (.int .u32))]), (75, [(.int .i64)]), (76, [.str, .str]), (87, [(.sl (.int .u32)), (.sl (.int .u32))]), (88, [.str, (.int .i64)]), (89, [(.sl (.int .i64))]), (99, [.str, .str]), (100, [(.int .u64), (.int .i64)]), (106, [.str, .str]), (107, [(.sl (.int .u32))]), (120, [.str]), (121, [(.sl (.int .u32)), (.int .u32)]), (122, [(.sl (.int .u32)), (.sl (.int .u32))]), (123, [(.sl (.int .u32))]), (125, [.str, .str]), (135, [(.int .u32)]), (136, [(.sl (.int .u32)), (.int .i64)]), (137, [(.int .u64), (.int .u64), (.int .u64), (.int .u64), (.int .u64)]), (140, [(.sl (.int .u32)), (.int .i64)])]
noncomputable def rtsL : List (Nat × List Ty) := [(13, [(.int .u64), .bool]), (14, [(.int .u64), .bool]), (15, [.str]), (16, [.str]), (17, [.str]), (18, [.str]), (41, [(.int .i64)]), (42, [(.int .i64)]), (43, [.str]), (44, [.str]), (46, [.str]), (47, [.str]), (48, [.str]), (72, [(.sl (.int .u32))]), (73, [(.int .u64)]), (74, [.str]), (75, [.str]), (76, [.str]), (87, [(.int .i64)]), (88, [(.int .i64)]), (89, [.str]), (99, [.str, .str, (.int .i64)]), (100, [.str]), (106, [.str, .str, (.int .i64)]), (107, [(.sl (.int .u32))]), (120, [(.sl (.int .u32))]), (121, [(.sl (.int .u32)), (.sl (.int .u32))]), (122, [(.sl (.int .u32)), (.sl (.int .u32))]), (123, [.str]), (125, [(.int .i64), .str]), (135, [(.int .i64)]), (136, [(.own (.int .u32))]), (137, [(.int .u64)]), (140, [(.sl (.int .u32))])]
noncomputable def annL : List (Nat × List (Nat × Path × Ann)) := [
  (14, [(14, [0, 1, 0, 1, 1, 1, 1], { live := [(0, .keep), (4, .keep), (5, .keep)], toks := [] })]),
  (16, [(16, [0, 1, 0, 1, 1], { live := [(0, .keep), (3, .keep), (4, .keep)], toks := [] })]),
  (18, [(18, [0, 0, 1], { live := [(0, .keep)], toks := [] }),
    (18, [1, 0, 0, 0, 0, 1], { live := [(0, .keep), (10, .keep)], toks := [] })]),
  (42, [(42, [1, 0, 1, 1, 1], { live := [(0, .keep), (1, .keep), (25, .keep)], toks := [] })]),
  (43, [(43, [0, 1, 0, 1, 1, 1, 1], { live := [(5, .im (.sl (.int .u32))), (6, .im (.sl (.int .u32))), (7, .own 1099511627776 (.int .u32)), (8, .keep), (19, .keep), (20, .keep)], toks := [] })]),
  (44, [(44, [0, 1, 0, 1, 1, 1], { live := [(0, .keep), (1, .keep), (5, .own 1099511627780 (.int .i64)), (6, .keep), (7, .keep)], toks := [] }),
    (44, [1, 0, 0, 0, 1, 0, 1, 1, 1], { live := [(0, .keep), (1, .keep), (5, .own 1099511627781 (.int .i64)), (6, .keep), (7, .keep), (22, .keep)], toks := [] })]),
  (46, [(46, [0, 1, 0, 1, 1, 1, 1], { live := [(0, .keep), (1, .keep), (5, .own 1099511627793 (.int .i64)), (6, .keep), (7, .keep)], toks := [] }),
    (46, [1, 1, 1, 0, 0, 1, 0, 0, 1, 0, 1, 1, 1, 1], { live := [(0, .keep), (1, .keep), (5, .own 1099511627794 (.int .i64)), (6, .keep), (7, .keep), (8, .keep)], toks := [] }),
    (46, [1, 0, 0, 0, 1, 0, 1, 1, 1, 1], { live := [(0, .keep), (1, .keep), (5, .own 1099511627795 (.int .i64)), (6, .keep), (7, .keep), (22, .keep)], toks := [] })]),
  (47, [(47, [0, 1, 0, 1, 1, 1], { live := [(5, .im (.sl (.int .u32))), (6, .im (.sl (.int .u32))), (7, .own 1099511627777 (.int .u32)), (23, .keep), (24, .keep)], toks := [] }),
    (47, [0, 1, 0, 1, 1, 0, 0, 1, 1, 0, 0, 1, 0, 1, 1, 1], { live := [(5, .im (.sl (.int .u32))), (6, .im (.sl (.int .u32))), (7, .own 1099511627778 (.int .u32)), (8, .keep), (9, .keep), (23, .keep), (24, .keep), (28, .keep), (29, .keep)], toks := [] })]),
  (48, [(48, [0, 1, 0, 1, 1], { live := [(0, .keep), (1, .keep), (5, .own 1099511627782 (.int .i64)), (6, .keep)], toks := [] }),
    (48, [0, 1, 0, 1, 1, 0, 0, 1, 0, 0, 1, 0, 1, 1], { live := [(0, .keep), (1, .keep), (5, .own 1099511627783 (.int .i64)), (6, .keep), (7, .keep), (8, .keep), (9, .keep)], toks := [] })]),
  (72, [(72, [0, 0, 1, 1], { live := [(0, .keep), (3, .own 1099511627784 (.int .u32))], toks := [] }),
    (72, [0, 1, 0, 1, 1, 0, 1, 0, 0, 0, 1, 1], { live := [(0, .keep), (3, .own 1099511627785 (.int .u32)), (4, .keep), (5, .keep), (18, .im (.sl (.int .u8))), (19, .keep), (20, .keep)], toks := [] })]),
  (89, [(89, [0, 1, 0, 1, 1], { live := [(0, .im (.sl (.int .i64))), (3, .own 1099511627789 (.int .u8)), (4, .keep)], toks := [] })]),
  (99, [(99, [1, 1, 1], { live := [(7, .im (.sl (.int .u32))), (8, .im (.sl (.int .u32)))], toks := [] })]),
  (100, [(100, [0, 1, 0, 1, 1], { live := [(0, .keep), (1, .keep), (5, .own 1099511627779 (.int .u8)), (9, .keep), (10, .keep)], toks := [] })]),
  (106, [(106, [0, 1, 0, 1, 1, 1, 1, 1, 1], { live := [(0, .keep), (1, .keep), (7, .keep), (8, .keep), (9, .keep)], toks := [] })]),
  (107, [(107, [0, 0, 1], { live := [(0, .im (.sl (.int .u32)))], toks := [] }),
    (107, [1, 0, 0, 0, 0, 1], { live := [(0, .im (.sl (.int .u32))), (14, .keep)], toks := [] })]),
  (120, [(120, [0, 1, 0, 1, 1], { live := [(0, .keep), (3, .own 1099511627786 (.int .u32))], toks := [] })]),
  (122, [(122, [0, 1, 0, 1, 1, 1, 1, 1, 1], { live := [(1, .im (.sl (.int .u32))), (6, .keep), (7, .own 1099511627787 (.int .u32)), (8, .keep), (9, .own 1099511627788 (.int .u32)), (10, .keep)], toks := [] }),
    (122, [1000004, 0, 0, 1, 0, 0, 1, 0, 0, 1, 0, 1, 1, 1, 1, 1, 1], { live := [(1, .keep), (6, .keep), (7, .keep), (8, .keep), (9, .keep), (10, .keep), (11, .keep)], toks := [] }),
    (138, [0, 1, 0, 1, 1], { live := [(0, .keep), (1, .im (.sl (.int .u32))), (2, .keep), (3, .keep), (9, .keep), (10, .keep), (16, .keep), (17, .keep)], toks := [(1099511627787, []), (1099511627788, [])] }),
    (122, [1000003, 1, 0, 1, 0, 1, 0, 0, 1, 0, 0, 1, 0, 1, 1, 1, 1, 1, 1], { live := [(1, .keep), (6, .keep), (7, .keep), (8, .keep), (9, .keep), (10, .keep), (11, .keep)], toks := [] }),
    (139, [0, 1, 0, 1], { live := [(0, .keep), (1, .im (.sl (.int .u32))), (2, .keep), (6, .keep), (10, .keep), (11, .keep)], toks := [(1099511627787, []), (1099511627788, [])] })]),
  (125, [(125, [0, 1, 0, 1, 1, 1], { live := [(0, .keep), (1, .keep), (6, .keep), (7, .keep)], toks := [] }),
    (125, [1, 1, 0, 0, 1, 0, 1, 1, 1], { live := [(0, .keep), (1, .keep), (6, .keep), (7, .keep)], toks := [] })]),
  (136, [(136, [0, 1, 0, 1, 1, 1], { live := [(0, .im (.sl (.int .u32))), (1, .keep), (5, .own 1099511627790 (.int .u32)), (6, .keep), (14, .im (.sl (.int .u32))), (15, .keep), (16, .keep)], toks := [] })]),
  (137, [(137, [0, 0, 1, 1, 1, 0, 1], { live := [(2, .keep), (3, .keep), (4, .keep), (12, .keep), (13, .keep)], toks := [] }),
    (137, [1, 0, 0, 0, 0, 1, 1, 1, 0, 1], { live := [(2, .keep), (3, .keep), (4, .keep), (12, .keep), (13, .keep), (36, .keep)], toks := [] })]),
  (140, [(140, [0, 1, 0, 1, 1], { live := [(0, .im (.sl (.int .u32))), (1, .keep), (5, .own 1099511627791 (.int .u32)), (12, .keep), (13, .keep)], toks := [] }),
    (140, [1, 1, 1, 0, 0, 1, 1, 0, 0, 1, 0, 1, 1], { live := [(0, .im (.sl (.int .u32))), (1, .keep), (5, .own 1099511627792 (.int .u32)), (6, .keep), (7, .keep), (12, .keep), (13, .keep)], toks := [] })])]
noncomputable def extL : List ((j : Nat) × (den (tyL ((look ptsL j).getD [])) → Option (den (tyL ((look rtsL j).getD []))))) := [⟨74, H.textF⟩, ⟨76, trimLeftF⟩, ⟨87, H.cmpF⟩, ⟨121, H.shortF⟩, ⟨123, H.textDivF⟩, ⟨135, lz32F⟩]
noncomputable def CT : Ctx where
  ti := look tis
  fn := look fns
  disp := fun _ f _ => match inls.elem f with
    | true => .inl
    | false => .spec f
  fid := fun i => i
  pts := fun i => (look ptsL i).getD []
  rts := fun i => (look rtsL i).getD []
  ext := lookE extL
  ann := fun i f p => match look annL i with
    | some l => lookP l f p
    | none => none
  inv := Inv
noncomputable abbrev nat_Small (x0 : List UInt8) : Option (Int × Bool) := (top CT).callF 13 (x0)
noncomputable abbrev abacistref01_Small (x0 : List UInt8) : Option (Int × Bool) := (top CT).callF 14 (x0)
noncomputable abbrev abacistref01_Small_1 (a1 : List UInt8) (a2 : Int) (a3 : Int) : Option (Int × Bool) := (top CT).stage 14 [] 14 [0, 1, 0, 1, 1, 1, 1] { env := [(0, (.str a1)), (4, (.int .u64 a2)), (5, (.int .i64 a3))], heap := [], salt := 0 }
noncomputable abbrev nat_Of (x0 : Int) : Option (List UInt8) := (top CT).callF 15 (x0)
noncomputable abbrev abacistref01_Of (x0 : Int) : Option (List UInt8) := (top CT).callF 16 (x0)
noncomputable abbrev abacistref01_Of_1 (a1 : Int) (a2 : List UInt8) (a3 : Int) : Option (List UInt8) := (top CT).stage 16 [] 16 [0, 1, 0, 1, 1] { env := [(0, (.int .u64 a1)), (3, (.str a2)), (4, (.int .i64 a3))], heap := [], salt := 0 }
noncomputable abbrev nat_Trim (x0 : List UInt8) : Option (List UInt8) := (top CT).callF 17 (x0)
noncomputable abbrev abacistref01_Trim (x0 : List UInt8) : Option (List UInt8) := (top CT).callF 18 (x0)
noncomputable abbrev abacistref01_Trim_1 (a1 : List UInt8) : Option (List UInt8) := (top CT).stage 18 [] 18 [0, 0, 1] { env := [(0, (.str a1))], heap := [], salt := 0 }
noncomputable abbrev abacistref01_Trim_2 (a1 : List UInt8) (a2 : Bool) : Option (List UInt8) := (top CT).stage 18 [] 18 [1, 0, 0, 0, 0, 1] { env := [(0, (.str a1)), (10, (.bool a2))], heap := [], salt := 0 }
noncomputable abbrev nat_Cmp (x0 : List UInt8) (x1 : List UInt8) : Option (Int) := (top CT).callF 41 (x0, x1)
noncomputable abbrev abacistref01_Cmp (x0 : List UInt8) (x1 : List UInt8) : Option (Int) := (top CT).callF 42 (x0, x1)
noncomputable abbrev abacistref01_Cmp_1 (a1 : List UInt8) (a2 : List UInt8) (a3 : Bool) : Option (Int) := (top CT).stage 42 [] 42 [1, 0, 1, 1, 1] { env := [(0, (.str a1)), (1, (.str a2)), (25, (.bool a3))], heap := [], salt := 0 }
noncomputable abbrev nat_Add (x0 : List UInt8) (x1 : List UInt8) : Option (List UInt8) := (top CT).callF 43 (x0, x1)
noncomputable abbrev nat_Add_1 (a1 : List Int) (a2 : List Int) (a3 : Int) (a4 : Int) (a5 : Int) (a6 : List Int) : Option (List UInt8) := (top CT).stage 43 [] 43 [0, 1, 0, 1, 1, 1, 1] { env := [(5, (.sl (.int .u32) a1 false)), (6, (.sl (.int .u32) a2 false)), (7, (.who 1099511627776 false)), (8, (.int .u64 a3)), (19, (.int .i64 a4)), (20, (.int .i64 a5))], heap := [(1099511627776, .arr (.int .u32) a6)], salt := 0 }
noncomputable abbrev abacistref01_Add (x0 : List UInt8) (x1 : List UInt8) : Option (List UInt8) := (top CT).callF 44 (x0, x1)
noncomputable abbrev abacistref01_Add_1 (a1 : List UInt8) (a2 : List UInt8) (a3 : Int) (a4 : Int) (a5 : List Int) : Option (List UInt8) := (top CT).stage 44 [] 44 [0, 1, 0, 1, 1, 1] { env := [(0, (.str a1)), (1, (.str a2)), (5, (.who 1099511627780 false)), (6, (.int .i64 a3)), (7, (.int .i64 a4))], heap := [(1099511627780, .arr (.int .i64) a5)], salt := 0 }
noncomputable abbrev abacistref01_Add_2 (a1 : List UInt8) (a2 : List UInt8) (a3 : Int) (a4 : Int) (a5 : Bool) (a6 : List Int) : Option (List UInt8) := (top CT).stage 44 [] 44 [1, 0, 0, 0, 1, 0, 1, 1, 1] { env := [(0, (.str a1)), (1, (.str a2)), (5, (.who 1099511627781 false)), (6, (.int .i64 a3)), (7, (.int .i64 a4)), (22, (.bool a5))], heap := [(1099511627781, .arr (.int .i64) a6)], salt := 0 }
noncomputable abbrev abacistref01_Sub (x0 : List UInt8) (x1 : List UInt8) : Option (List UInt8) := (top CT).callF 46 (x0, x1)
noncomputable abbrev abacistref01_Sub_1 (a1 : List UInt8) (a2 : List UInt8) (a3 : Int) (a4 : Int) (a5 : List Int) : Option (List UInt8) := (top CT).stage 46 [] 46 [0, 1, 0, 1, 1, 1, 1] { env := [(0, (.str a1)), (1, (.str a2)), (5, (.who 1099511627793 false)), (6, (.int .i64 a3)), (7, (.int .i64 a4))], heap := [(1099511627793, .arr (.int .i64) a5)], salt := 0 }
noncomputable abbrev abacistref01_Sub_2 (a1 : List UInt8) (a2 : List UInt8) (a3 : Int) (a4 : Int) (a5 : Bool) (a6 : List Int) : Option (List UInt8) := (top CT).stage 46 [] 46 [1, 0, 0, 0, 1, 0, 1, 1, 1, 1] { env := [(0, (.str a1)), (1, (.str a2)), (5, (.who 1099511627795 false)), (6, (.int .i64 a3)), (7, (.int .i64 a4)), (22, (.bool a5))], heap := [(1099511627795, .arr (.int .i64) a6)], salt := 0 }
noncomputable abbrev abacistref01_Sub_3 (a1 : List UInt8) (a2 : List UInt8) (a3 : Int) (a4 : Int) (a5 : Int) (a6 : List Int) : Option (List UInt8) := (top CT).stage 46 [] 46 [1, 1, 1, 0, 0, 1, 0, 0, 1, 0, 1, 1, 1, 1] { env := [(0, (.str a1)), (1, (.str a2)), (5, (.who 1099511627794 false)), (6, (.int .i64 a3)), (7, (.int .i64 a4)), (8, (.int .i64 a5))], heap := [(1099511627794, .arr (.int .i64) a6)], salt := 0 }
noncomputable abbrev nat_Mul (x0 : List UInt8) (x1 : List UInt8) : Option (List UInt8) := (top CT).callF 47 (x0, x1)
noncomputable abbrev nat_Mul_1 (a1 : List Int) (a2 : List Int) (a3 : Int) (a4 : Int) (a5 : List Int) : Option (List UInt8) := (top CT).stage 47 [] 47 [0, 1, 0, 1, 1, 1] { env := [(5, (.sl (.int .u32) a1 false)), (6, (.sl (.int .u32) a2 false)), (7, (.who 1099511627777 false)), (23, (.int .i64 a3)), (24, (.int .i64 a4))], heap := [(1099511627777, .arr (.int .u32) a5)], salt := 0 }
noncomputable abbrev nat_Mul_2 (a1 : List Int) (a2 : List Int) (a3 : Int) (a4 : Int) (a5 : Int) (a6 : Int) (a7 : Int) (a8 : Int) (a9 : List Int) : Option (List UInt8) := (top CT).stage 47 [] 47 [0, 1, 0, 1, 1, 0, 0, 1, 1, 0, 0, 1, 0, 1, 1, 1] { env := [(5, (.sl (.int .u32) a1 false)), (6, (.sl (.int .u32) a2 false)), (7, (.who 1099511627778 false)), (8, (.int .i64 a3)), (9, (.int .u64 a4)), (23, (.int .i64 a5)), (24, (.int .i64 a6)), (28, (.int .i64 a7)), (29, (.int .i64 a8))], heap := [(1099511627778, .arr (.int .u32) a9)], salt := 0 }
noncomputable abbrev abacistref01_Mul (x0 : List UInt8) (x1 : List UInt8) : Option (List UInt8) := (top CT).callF 48 (x0, x1)
noncomputable abbrev abacistref01_Mul_1 (a1 : List UInt8) (a2 : List UInt8) (a3 : Int) (a4 : List Int) : Option (List UInt8) := (top CT).stage 48 [] 48 [0, 1, 0, 1, 1] { env := [(0, (.str a1)), (1, (.str a2)), (5, (.who 1099511627782 false)), (6, (.int .i64 a3))], heap := [(1099511627782, .arr (.int .i64) a4)], salt := 0 }
noncomputable abbrev abacistref01_Mul_2 (a1 : List UInt8) (a2 : List UInt8) (a3 : Int) (a4 : Int) (a5 : Int) (a6 : Int) (a7 : List Int) : Option (List UInt8) := (top CT).stage 48 [] 48 [0, 1, 0, 1, 1, 0, 0, 1, 0, 0, 1, 0, 1, 1] { env := [(0, (.str a1)), (1, (.str a2)), (5, (.who 1099511627783 false)), (6, (.int .i64 a3)), (7, (.int .i64 a4)), (8, (.int .i64 a5)), (9, (.int .i64 a6))], heap := [(1099511627783, .arr (.int .i64) a7)], salt := 0 }
noncomputable abbrev nat_read (x0 : List UInt8) : Option (List Int) := (top CT).callF 72 (x0)
noncomputable abbrev nat_read_1 (a1 : List UInt8) (a2 : List Int) : Option (List Int) := (top CT).stage 72 [] 72 [0, 0, 1, 1] { env := [(0, (.str a1)), (3, (.who 1099511627784 false))], heap := [(1099511627784, .arr (.int .u32) a2)], salt := 0 }
noncomputable abbrev nat_read_2 (a1 : List UInt8) (a2 : Int) (a3 : Int) (a4 : List Int) (a5 : Int) (a6 : Int) (a7 : List Int) : Option (List Int) := (top CT).stage 72 [] 72 [0, 1, 0, 1, 1, 0, 1, 0, 0, 0, 1, 1] { env := [(0, (.str a1)), (3, (.who 1099511627785 false)), (4, (.int .i64 a2)), (5, (.int .u32 a3)), (18, (.sl (.int .u8) a4 false)), (19, (.int .i64 a5)), (20, (.int .i64 a6))], heap := [(1099511627785, .arr (.int .u32) a7)], salt := 0 }
noncomputable abbrev nat_limbs_at (x0 : List Int) (x1 : Int) : Option (Int) := (top CT).callF 73 (x0, x1)
noncomputable abbrev nat_limbs_text (x0 : List Int) : Option (List UInt8) := (top CT).callF 74 (x0)
noncomputable abbrev abacistref01_Byte (x0 : Int) : Option (List UInt8) := (top CT).callF 75 (x0)
noncomputable abbrev strings_TrimLeft (x0 : List UInt8) (x1 : List UInt8) : Option (List UInt8) := (top CT).callF 76 (x0, x1)
noncomputable abbrev nat_limbs_cmp (x0 : List Int) (x1 : List Int) : Option (Int) := (top CT).callF 87 (x0, x1)
noncomputable abbrev abacistref01_at (x0 : List UInt8) (x1 : Int) : Option (Int) := (top CT).callF 88 (x0, x1)
noncomputable abbrev abacistref01_turned (x0 : List Int) : Option (List UInt8) := (top CT).callF 89 (x0)
noncomputable abbrev abacistref01_turned_1 (a1 : List Int) (a2 : Int) (a3 : List Int) : Option (List UInt8) := (top CT).stage 89 [] 89 [0, 1, 0, 1, 1] { env := [(0, (.sl (.int .i64) a1 false)), (3, (.who 1099511627789 false)), (4, (.int .i64 a2))], heap := [(1099511627789, .arr (.int .u8) a3)], salt := 0 }
noncomputable abbrev divide_DivMod (x0 : List UInt8) (x1 : List UInt8) : Option (List UInt8 × List UInt8 × Int) := (top CT).callF 99 (x0, x1)
noncomputable abbrev divide_DivMod_1 (a1 : List Int) (a2 : List Int) : Option (List UInt8 × List UInt8 × Int) := (top CT).stage 99 [] 99 [1, 1, 1] { env := [(7, (.sl (.int .u32) a1 false)), (8, (.sl (.int .u32) a2 false))], heap := [], salt := 0 }
noncomputable abbrev dec_digits (x0 : Int) (x1 : Int) : Option (List UInt8) := (top CT).callF 100 (x0, x1)
noncomputable abbrev dec_digits_1 (a1 : Int) (a2 : Int) (a3 : Int) (a4 : Int) (a5 : List Int) : Option (List UInt8) := (top CT).stage 100 [] 100 [0, 1, 0, 1, 1] { env := [(0, (.int .u64 a1)), (1, (.int .i64 a2)), (5, (.who 1099511627779 false)), (9, (.int .i64 a3)), (10, (.int .i64 a4))], heap := [(1099511627779, .arr (.int .u8) a5)], salt := 0 }
noncomputable abbrev abacistref02_DivMod (x0 : List UInt8) (x1 : List UInt8) : Option (List UInt8 × List UInt8 × Int) := (top CT).callF 106 (x0, x1)
noncomputable abbrev abacistref02_DivMod_1 (a1 : List UInt8) (a2 : List UInt8) (a3 : List UInt8) (a4 : List UInt8) (a5 : Int) : Option (List UInt8 × List UInt8 × Int) := (top CT).stage 106 [] 106 [0, 1, 0, 1, 1, 1, 1, 1, 1] { env := [(0, (.str a1)), (1, (.str a2)), (7, (.str a3)), (8, (.str a4)), (9, (.int .i64 a5))], heap := [], salt := 0 }
noncomputable abbrev nat_limbs_cut (x0 : List Int) : Option (List Int) := (top CT).callF 107 (x0)
noncomputable abbrev nat_limbs_cut_1 (a1 : List Int) : Option (List Int) := (top CT).stage 107 [] 107 [0, 0, 1] { env := [(0, (.sl (.int .u32) a1 false))], heap := [], salt := 0 }
noncomputable abbrev nat_limbs_cut_2 (a1 : List Int) (a2 : Bool) : Option (List Int) := (top CT).stage 107 [] 107 [1, 0, 0, 0, 0, 1] { env := [(0, (.sl (.int .u32) a1 false)), (14, (.bool a2))], heap := [], salt := 0 }
noncomputable abbrev divide_read (x0 : List UInt8) : Option (List Int) := (top CT).callF 120 (x0)
noncomputable abbrev divide_read_1 (a1 : List UInt8) (a2 : List Int) : Option (List Int) := (top CT).stage 120 [] 120 [0, 1, 0, 1, 1] { env := [(0, (.str a1)), (3, (.who 1099511627786 false))], heap := [(1099511627786, .arr (.int .u32) a2)], salt := 0 }
noncomputable abbrev divide_limbs_short (x0 : List Int) (x1 : Int) : Option (List Int × List Int) := (top CT).callF 121 (x0, x1)
noncomputable abbrev divide_limbs_long (x0 : List Int) (x1 : List Int) : Option (List Int × List Int) := (top CT).callF 122 (x0, x1)
noncomputable abbrev divide_limbs_long_1 (a1 : List Int) (a2 : Int) (a3 : Int) (a4 : Int) (a5 : List Int) (a6 : List Int) : Option (List Int × List Int) := (top CT).stage 122 [] 122 [0, 1, 0, 1, 1, 1, 1, 1, 1] { env := [(1, (.sl (.int .u32) a1 false)), (6, (.int .i64 a2)), (7, (.who 1099511627787 false)), (8, (.int .i64 a3)), (9, (.who 1099511627788 false)), (10, (.int .i64 a4))], heap := [(1099511627787, .arr (.int .u32) a5), (1099511627788, .arr (.int .u32) a6)], salt := 0 }
noncomputable abbrev divide_limbs_long_2 (a1 : List Int) (a2 : Int) (a3 : Int) (a4 : List Int) (a5 : List Int) (a6 : List Int) (a7 : Int) (a8 : Int) (a9 : Int) (a10 : Int) : Option (List Int × List Int) := (top CT).stage 122 [{ f := 122, path := [0, 0, 1, 0, 0, 1, 0, 0, 1, 0, 1, 1, 1, 1, 1, 1], op := 4, rest := [5], env := [(1, (.sl (.int .u32) a6 false)), (6, (.int .i64 a7)), (7, (.who 1099511627787 false)), (8, (.int .i64 a8)), (9, (.who 1099511627788 false)), (10, (.int .i64 a9)), (11, (.int .u64 a10))], salt := 0 }] 138 [] { env := [(0, (.who 1099511627787 false)), (1, (.sl (.int .u32) a1 false)), (2, (.int .u64 a2)), (3, (.int .i64 a3))], heap := [(1099511627787, .arr (.int .u32) a4), (1099511627788, .arr (.int .u32) a5)], salt := 85 }
noncomputable abbrev divide_limbs_long_3 (a1 : List Int) (a2 : Int) (a3 : Int) (a4 : Int) (a5 : Int) (a6 : Int) (a7 : Int) (a8 : List Int) (a9 : List Int) (a10 : List Int) (a11 : Int) (a12 : Int) (a13 : Int) (a14 : Int) : Option (List Int × List Int) := (top CT).stage 122 [{ f := 122, path := [0, 0, 1, 0, 0, 1, 0, 0, 1, 0, 1, 1, 1, 1, 1, 1], op := 4, rest := [5], env := [(1, (.sl (.int .u32) a10 false)), (6, (.int .i64 a11)), (7, (.who 1099511627787 false)), (8, (.int .i64 a12)), (9, (.who 1099511627788 false)), (10, (.int .i64 a13)), (11, (.int .u64 a14))], salt := 0 }] 138 [0, 1, 0, 1, 1] { env := [(0, (.who 1099511627787 false)), (1, (.sl (.int .u32) a1 false)), (2, (.int .u64 a2)), (3, (.int .i64 a3)), (9, (.int .u64 a4)), (10, (.int .u64 a5)), (16, (.int .i64 a6)), (17, (.int .i64 a7))], heap := [(1099511627787, .arr (.int .u32) a8), (1099511627788, .arr (.int .u32) a9)], salt := 85 }
noncomputable abbrev divide_limbs_long_4 (a1 : List Int) (a2 : Int) (a3 : List Int) (a4 : List Int) (a5 : List Int) (a6 : Int) (a7 : Int) (a8 : Int) (a9 : Int) : Option (List Int × List Int) := (top CT).stage 122 [{ f := 122, path := [1, 0, 1, 0, 1, 0, 0, 1, 0, 0, 1, 0, 1, 1, 1, 1, 1, 1], op := 3, rest := [], env := [(1, (.sl (.int .u32) a5 false)), (6, (.int .i64 a6)), (7, (.who 1099511627787 false)), (8, (.int .i64 a7)), (9, (.who 1099511627788 false)), (10, (.int .i64 a8)), (11, (.int .u64 a9))], salt := 0 }] 139 [] { env := [(0, (.who 1099511627787 false)), (1, (.sl (.int .u32) a1 false)), (2, (.int .i64 a2))], heap := [(1099511627787, .arr (.int .u32) a3), (1099511627788, .arr (.int .u32) a4)], salt := 92 }
noncomputable abbrev divide_limbs_long_5 (a1 : List Int) (a2 : Int) (a3 : Int) (a4 : Int) (a5 : Int) (a6 : List Int) (a7 : List Int) (a8 : List Int) (a9 : Int) (a10 : Int) (a11 : Int) (a12 : Int) : Option (List Int × List Int) := (top CT).stage 122 [{ f := 122, path := [1, 0, 1, 0, 1, 0, 0, 1, 0, 0, 1, 0, 1, 1, 1, 1, 1, 1], op := 3, rest := [], env := [(1, (.sl (.int .u32) a8 false)), (6, (.int .i64 a9)), (7, (.who 1099511627787 false)), (8, (.int .i64 a10)), (9, (.who 1099511627788 false)), (10, (.int .i64 a11)), (11, (.int .u64 a12))], salt := 0 }] 139 [0, 1, 0, 1] { env := [(0, (.who 1099511627787 false)), (1, (.sl (.int .u32) a1 false)), (2, (.int .i64 a2)), (6, (.int .u64 a3)), (10, (.int .i64 a4)), (11, (.int .i64 a5))], heap := [(1099511627787, .arr (.int .u32) a6), (1099511627788, .arr (.int .u32) a7)], salt := 92 }
noncomputable abbrev divide_limbs_text (x0 : List Int) : Option (List UInt8) := (top CT).callF 123 (x0)
noncomputable abbrev abacistref02_digit (x0 : List UInt8) (x1 : List UInt8) : Option (Int × List UInt8) := (top CT).callF 125 (x0, x1)
noncomputable abbrev abacistref02_digit_1 (a1 : List UInt8) (a2 : List UInt8) (a3 : Int) (a4 : Int) : Option (Int × List UInt8) := (top CT).stage 125 [] 125 [0, 1, 0, 1, 1, 1] { env := [(0, (.str a1)), (1, (.str a2)), (6, (.int .i64 a3)), (7, (.int .i64 a4))], heap := [], salt := 0 }
noncomputable abbrev abacistref02_digit_2 (a1 : List UInt8) (a2 : List UInt8) (a3 : Int) (a4 : Int) : Option (Int × List UInt8) := (top CT).stage 125 [] 125 [1, 1, 0, 0, 1, 0, 1, 1, 1] { env := [(0, (.str a1)), (1, (.str a2)), (6, (.int .i64 a3)), (7, (.int .i64 a4))], heap := [], salt := 0 }
noncomputable abbrev math_bits_LeadingZeros32 (x0 : Int) : Option (Int) := (top CT).callF 135 (x0)
noncomputable abbrev divide_limbs_shifted (x0 : List Int) (x1 : Int) : Option (List Int) := (top CT).callF 136 (x0, x1)
noncomputable abbrev divide_limbs_shifted_1 (a1 : List Int) (a2 : Int) (a3 : Int) (a4 : List Int) (a5 : Int) (a6 : Int) (a7 : List Int) : Option (List Int) := (top CT).stage 136 [] 136 [0, 1, 0, 1, 1, 1] { env := [(0, (.sl (.int .u32) a1 false)), (1, (.int .i64 a2)), (5, (.who 1099511627790 false)), (6, (.int .u64 a3)), (14, (.sl (.int .u32) a4 false)), (15, (.int .i64 a5)), (16, (.int .i64 a6))], heap := [(1099511627790, .arr (.int .u32) a7)], salt := 0 }
noncomputable abbrev divide_guess (x0 : Int) (x1 : Int) (x2 : Int) (x3 : Int) (x4 : Int) : Option (Int) := (top CT).callF 137 (x0, x1, x2, x3, x4)
noncomputable abbrev divide_guess_1 (a1 : Int) (a2 : Int) (a3 : Int) (a4 : Int) (a5 : Int) : Option (Int) := (top CT).stage 137 [] 137 [0, 0, 1, 1, 1, 0, 1] { env := [(2, (.int .u64 a1)), (3, (.int .u64 a2)), (4, (.int .u64 a3)), (12, (.int .u64 a4)), (13, (.int .u64 a5))], heap := [], salt := 0 }
noncomputable abbrev divide_guess_2 (a1 : Int) (a2 : Int) (a3 : Int) (a4 : Int) (a5 : Int) (a6 : Bool) : Option (Int) := (top CT).stage 137 [] 137 [1, 0, 0, 0, 0, 1, 1, 1, 0, 1] { env := [(2, (.int .u64 a1)), (3, (.int .u64 a2)), (4, (.int .u64 a3)), (12, (.int .u64 a4)), (13, (.int .u64 a5)), (36, (.bool a6))], heap := [], salt := 0 }
noncomputable abbrev divide_limbs_back (x0 : List Int) (x1 : Int) : Option (List Int) := (top CT).callF 140 (x0, x1)
noncomputable abbrev divide_limbs_back_1 (a1 : List Int) (a2 : Int) (a3 : Int) (a4 : Int) (a5 : List Int) : Option (List Int) := (top CT).stage 140 [] 140 [0, 1, 0, 1, 1] { env := [(0, (.sl (.int .u32) a1 false)), (1, (.int .i64 a2)), (5, (.who 1099511627791 false)), (12, (.int .i64 a3)), (13, (.int .i64 a4))], heap := [(1099511627791, .arr (.int .u32) a5)], salt := 0 }
noncomputable abbrev divide_limbs_back_2 (a1 : List Int) (a2 : Int) (a3 : Int) (a4 : Int) (a5 : Int) (a6 : Int) (a7 : List Int) : Option (List Int) := (top CT).stage 140 [] 140 [1, 1, 1, 0, 0, 1, 1, 0, 0, 1, 0, 1, 1] { env := [(0, (.sl (.int .u32) a1 false)), (1, (.int .i64 a2)), (5, (.who 1099511627792 false)), (6, (.int .i64 a3)), (7, (.int .u64 a4)), (12, (.int .i64 a5)), (13, (.int .i64 a6))], heap := [(1099511627792, .arr (.int .u32) a7)], salt := 0 }
end Go.Proofs.YtcdcijhfjiahkaaDoorR.C
