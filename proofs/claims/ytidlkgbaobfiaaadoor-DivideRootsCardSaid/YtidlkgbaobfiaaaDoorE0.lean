/- The machine at this seat: tables, names. -/
import Derived.Test.YtidlkgbaobfiaaaDoorKM
import Derived.Test.YtidlkgbaobfiaaaDoorB3
import Derived.Test.YtidlkgbaobfiaaaDoorKHcmp
import Derived.Test.YtidlkgbaobfiaaaDoorKHtextDiv
import Derived.Test.YtidlkgbaobfiaaaDoorKHshort
import Derived.Test.YtidlkgbaobfiaaaDoorProg
set_option linter.unusedVariables false
set_option maxRecDepth 100000
namespace Go.Proofs.YtidlkgbaobfiaaaDoor.K
open Go
def look {α : Type} : List (Nat × α) → Nat → Option α
  | [], _ => none
  | (u, v) :: l, t => match Nat.beq u t with
    | true => some v
    | false => look l t
def peq : Path → Path → Bool
  | [], [] => true
  | a :: p, b :: q => Nat.beq a b && peq p q
  | _, _ => false
def lookP : List (Nat × Path × Ann) → Nat → Path → Option Ann
  | [], _, _ => none
  | (g, u, v) :: l, f, t => match Nat.beq g f && peq u t with
    | true => some v
    | false => lookP l f t
def Inv (w : World) : Prop := MaxLen w
theorem inv_max : ∀ w, Inv w → MaxLen w := fun _ h => h
theorem inv_keeps : ∀ w w', Inv w → RowKit.Below w.heap.size w w' → Inv w' := maxLen_keeps
noncomputable def ti3 : TI := { sh := (.int .i64), size := 1, bytes := 8, zero := [(.int .i64 0)], ty := some (.int .i64), fl := [], eq := false }
noncomputable def ti5 : TI := { sh := (.int .u8), size := 1, bytes := 1, zero := [(.int .u8 0)], ty := some (.int .u8), fl := [], eq := false }
noncomputable def ti9 : TI := { sh := .str, size := 1, bytes := 16, zero := [(.str [])], ty := some .str, fl := [], eq := false }
noncomputable def ti36 : TI := { sh := (.sl 40), size := 1, bytes := 24, zero := [.nilsl], ty := some (.sl (.int .u32)), fl := [], eq := false }
noncomputable def ti40 : TI := { sh := (.int .u32), size := 1, bytes := 4, zero := [(.int .u32 0)], ty := some (.int .u32), fl := [], eq := false }
noncomputable def ti46 : TI := { sh := (.sl 3), size := 1, bytes := 24, zero := [.nilsl], ty := some (.sl (.int .i64)), fl := [], eq := false }
noncomputable def ti48 : TI := { sh := (.int .u64), size := 1, bytes := 8, zero := [(.int .u64 0)], ty := some (.int .u64), fl := [], eq := false }
noncomputable def ti51 : TI := { sh := (.int .u64), size := 1, bytes := 8, zero := [(.int .u64 0)], ty := some (.int .u64), fl := [], eq := false }
noncomputable def ti56 : TI := { sh := (.sl 40), size := 1, bytes := 24, zero := [.nilsl], ty := some (.sl (.int .u32)), fl := [], eq := false }
noncomputable def ti66 : TI := { sh := (.sl 5), size := 1, bytes := 24, zero := [.nilsl], ty := some (.sl (.int .u8)), fl := [], eq := false }
noncomputable def tis : List (Nat × TI) := [(3, ti3), (5, ti5), (9, ti9), (36, ti36), (40, ti40), (46, ti46), (48, ti48), (51, ti51), (56, ti56), (66, ti66)]
noncomputable def fns : List (Nat × Func) := [(3, Tryd.f3), (4, Tryd.f4), (5, Tryd.f5), (6, Tryd.f6), (7, Tryd.f7), (8, Tryd.f8), (9, Tryd.f9), (10, Tryd.f10), (11, Tryd.f11), (12, Tryd.f12), (13, Tryd.f13), (14, Tryd.f14), (15, Tryd.f15), (16, Tryd.f16), (17, Tryd.f17), (18, Tryd.f18), (19, Tryd.f19), (20, Tryd.f20), (21, Tryd.f21), (22, Tryd.f22), (23, Tryd.f23), (24, Tryd.f24), (25, Tryd.f25), (26, Tryd.f26), (27, Tryd.f27), (28, Tryd.f28), (29, Tryd.f29), (30, Tryd.f30), (31, Tryd.f31), (32, Tryd.f32), (33, Tryd.f33), (34, Tryd.f34), (35, Tryd.f35), (36, Tryd.f36), (37, Tryd.f37), (39, Tryd.f39), (40, Tryd.f40), (41, Tryd.f41), (42, Tryd.f42), (43, Tryd.f43), (44, Tryd.f44), (45, Tryd.f45), (46, Tryd.f46), (47, Tryd.f47), (49, Tryd.f49), (50, Tryd.f50), (53, Tryd.f53), (60, Tryd.f60), (61, Tryd.f61), (64, Tryd.f64), (38, Tryd.f38), (51, Tryd.f51), (52, Tryd.f52)]
def inls : List Nat := [38, 51, 52]
noncomputable def ptsL : List (Nat × List Ty) := [(3, [.str, .str]), (4, [.str, .str]), (5, [.str]), (6, [.str, (.int .i64), (.int .i64)]), (7, []), (8, [.str, .str]), (9, [.str, .str]), (10, [.str, .str]), (11, [.str, .str]), (12, [.str]), (13, [.str, .str]), (14, [.str, .str]), (15, [.str, .str]), (16, [.str]), (17, [.str]), (18, [.str, (.int .i64)]), (19, [.str, (.int .i64)]), (20, [.str, (.int .i64)]), (21, [.str, (.int .i64)]), (22, [.str, (.int .i64)]), (23, [.str, (.int .i64)]), (24, [.str]), (25, [.str, .str]), (26, [.str]), (27, [(.sl (.int .u32)), (.int .u32)]), (28, [(.sl (.int .u32)), (.sl (.int .u32))]), (29, [(.sl (.int .u32))]), (30, [.str, .str]), (31, [(.int .i64)]), (32, [.str, (.int .i64)]), (33, [(.sl (.int .i64))]), (34, [.str, .str]), (35, [.str, (.int .i64)]), (36, [.str, .str]), (37, [(.int .u64)]), (39, [.str, .str]), (40, [(.int .u64)]), (41, [(.sl (.int .u32)), (.int .i64)]), (42, [(.sl (.int .u32)), (.int .i64)]), (43, [.str, .str]), (44, [.str]), (45, [.str]), (46, [(.sl (.int .u32)), (.sl (.int .u32))]), (47, [.str, .str]), (49, [(.int .u32)]), (50, [(.int .u64), (.int .u64), (.int .u64), (.int .u64), (.int .u64)]), (53, [.str, .str]), (60, [(.sl (.int .u32)), (.int .i64)]), (61, [(.sl (.int .u32))]), (64, [(.sl (.int .u32))])]
noncomputable def rtsL : List (Nat × List Ty) := [(3, [.bool]), (4, [.bool]), (5, [.bool]), (6, [.bool]), (7, [.bool]), (8, [.str, .str, (.int .i64)]), (9, [.str, .str, (.int .i64)]), (10, [.str]), (11, [.str]), (12, [.str]), (13, [(.int .i64)]), (14, [.str]), (15, [.str]), (16, [.str]), (17, [.str]), (18, [.str, (.int .i64)]), (19, [.str, (.int .i64)]), (20, [.str, (.int .i64)]), (21, [.str, (.int .i64)]), (22, [.str]), (23, [.str]), (24, [(.sl (.int .u32))]), (25, [(.int .i64)]), (26, [.str]), (27, [(.sl (.int .u32)), (.sl (.int .u32))]), (28, [(.sl (.int .u32)), (.sl (.int .u32))]), (29, [.str]), (30, [(.int .i64), .str]), (31, [.str]), (32, [(.int .i64)]), (33, [.str]), (34, [.str]), (35, [.str]), (36, [.str]), (37, [.str]), (39, [.str]), (40, [(.int .i64)]), (41, [(.own (.int .u32))]), (42, [(.sl (.int .u32))]), (43, [.str]), (44, [(.int .u64), .bool]), (45, [(.sl (.int .u32))]), (46, [(.int .i64)]), (47, [.str]), (49, [(.int .i64)]), (50, [(.int .u64)]), (53, [.str]), (60, [(.int .u64)]), (61, [.str]), (64, [(.sl (.int .u32))])]
noncomputable def annL : List (Nat × List (Nat × Path × Ann)) := [
  (3, [(3, [1, 0, 1], { live := [(0, .keep), (1, .keep), (18, .keep)], toks := [] }),
    (3, [1, 0, 1, 1, 1, 1], { live := [(0, .keep), (1, .keep), (5, .keep), (6, .keep), (10, .keep), (46, .keep)], toks := [] })]),
  (4, [(4, [1, 0, 1], { live := [(0, .keep), (1, .keep), (19, .keep)], toks := [] })]),
  (6, [(6, [1, 0, 1], { live := [(0, .keep), (1, .keep), (2, .keep), (21, .keep)], toks := [] })]),
  (8, [(8, [1, 1, 1], { live := [(7, .im (.sl (.int .u32))), (8, .im (.sl (.int .u32)))], toks := [] })]),
  (9, [(9, [0, 1, 0, 1, 1, 1, 1, 1, 1], { live := [(0, .keep), (1, .keep), (7, .keep), (8, .keep), (9, .keep)], toks := [] })]),
  (10, [(10, [0, 1, 0, 1, 1, 1], { live := [(0, .keep), (1, .keep), (5, .own 1099511627778 (.int .i64)), (6, .keep), (7, .keep)], toks := [] }),
    (10, [1, 0, 0, 0, 1, 0, 1, 1, 1], { live := [(0, .keep), (1, .keep), (5, .own 1099511627779 (.int .i64)), (6, .keep), (7, .keep), (22, .keep)], toks := [] })]),
  (11, [(11, [0, 1, 0, 1, 1], { live := [(0, .keep), (1, .keep), (5, .own 1099511627776 (.int .i64)), (6, .keep)], toks := [] }),
    (11, [0, 1, 0, 1, 1, 0, 0, 1, 0, 0, 1, 0, 1, 1], { live := [(0, .keep), (1, .keep), (5, .own 1099511627777 (.int .i64)), (6, .keep), (7, .keep), (8, .keep), (9, .keep)], toks := [] })]),
  (12, [(12, [0, 0, 1], { live := [(0, .keep)], toks := [] }),
    (12, [1, 0, 0, 0, 0, 1], { live := [(0, .keep), (10, .keep)], toks := [] })]),
  (13, [(13, [1, 0, 1, 1, 1], { live := [(0, .keep), (1, .keep), (25, .keep)], toks := [] })]),
  (14, [(14, [0, 0, 1, 1], { live := [(0, .keep), (1, .keep)], toks := [] })]),
  (15, [(15, [0, 1, 0, 1, 1, 1], { live := [(0, .keep), (1, .keep), (5, .keep)], toks := [] }),
    (15, [1, 0, 0, 0, 1, 0, 1, 1, 1], { live := [(0, .keep), (1, .keep), (5, .keep), (15, .keep)], toks := [] })]),
  (16, [(16, [0, 1, 1, 1, 1], { live := [(0, .keep), (3, .keep)], toks := [] })]),
  (17, [(17, [0, 1, 0, 1, 1, 1], { live := [(0, .keep), (3, .keep), (4, .keep)], toks := [] }),
    (17, [0, 1, 1, 0, 0, 1, 0, 0, 1, 0, 1, 1, 1], { live := [(0, .keep), (3, .keep), (4, .keep), (5, .keep)], toks := [] }),
    (17, [0, 1, 0, 1, 1, 1, 0, 0, 1, 0, 0, 1, 1, 0, 0, 1, 0, 0, 1, 0, 1, 1, 1], { live := [(0, .keep), (3, .keep), (4, .keep), (5, .keep), (6, .keep), (7, .keep), (8, .keep), (9, .keep)], toks := [] }),
    (17, [1, 1, 0, 0, 1, 1, 0, 0, 1, 0, 0, 1, 0, 1, 1, 1], { live := [(0, .keep), (3, .keep), (4, .keep), (5, .keep)], toks := [] })]),
  (18, [(18, [1, 1, 1, 1, 1, 0, 1, 0, 1], { live := [(0, .keep), (1, .keep), (18, .keep)], toks := [] }),
    (18, [0, 1, 0, 1, 1, 1, 1], { live := [(0, .keep), (1, .keep), (6, .keep), (7, .keep), (8, .keep)], toks := [(96, [.keep])] }),
    (18, [1000002, 0, 0, 0, 1, 0, 0, 1, 0, 1, 1, 1, 1], { live := [(0, .keep), (1, .keep), (6, .keep), (7, .keep), (8, .keep)], toks := [] }),
    (18, [1000013, 0, 0, 0, 1, 0, 0, 1, 0, 1, 1, 1, 1], { live := [(0, .keep), (1, .keep), (6, .keep), (7, .keep), (8, .keep), (44, .keep), (50, .keep)], toks := [] }),
    (18, [1, 0, 0, 1, 0, 0, 1, 0, 1, 1, 1, 1], { live := [(0, .keep), (1, .keep), (6, .keep), (7, .keep), (8, .keep), (56, .keep)], toks := [(96, [.keep])] })]),
  (19, [(19, [1, 0, 1, 1, 1], { live := [(0, .keep), (1, .keep), (25, .keep)], toks := [] }),
    (19, [0, 1, 0, 1, 1, 1, 1, 1], { live := [(0, .keep), (1, .keep), (6, .keep), (7, .keep)], toks := [] })]),
  (20, [(20, [1, 1, 1, 1, 1, 0, 1, 0, 1], { live := [(0, .keep), (1, .keep), (15, .keep)], toks := [] })]),
  (21, [(21, [1, 0, 1, 1, 1, 1], { live := [(0, .keep), (1, .keep), (19, .keep)], toks := [] }),
    (21, [0, 1, 0, 1, 1, 1, 1, 1], { live := [(0, .keep), (1, .keep), (6, .keep)], toks := [] })]),
  (24, [(24, [0, 1, 0, 1, 1], { live := [(0, .keep), (3, .own 1099511627780 (.int .u32))], toks := [] })]),
  (28, [(28, [0, 1, 0, 1, 1, 1, 1, 1, 1], { live := [(1, .im (.sl (.int .u32))), (6, .keep), (7, .own 1099511627781 (.int .u32)), (8, .keep), (9, .own 1099511627782 (.int .u32)), (10, .keep)], toks := [] }),
    (28, [1000004, 0, 0, 1, 0, 0, 1, 0, 0, 1, 0, 1, 1, 1, 1, 1, 1], { live := [(1, .keep), (6, .keep), (7, .keep), (8, .keep), (9, .keep), (10, .keep), (11, .keep)], toks := [] }),
    (51, [0, 1, 0, 1, 1], { live := [(0, .keep), (1, .im (.sl (.int .u32))), (2, .keep), (3, .keep), (9, .keep), (10, .keep), (16, .keep), (17, .keep)], toks := [(1099511627781, []), (1099511627782, [])] }),
    (28, [1000003, 1, 0, 1, 0, 1, 0, 0, 1, 0, 0, 1, 0, 1, 1, 1, 1, 1, 1], { live := [(1, .keep), (6, .keep), (7, .keep), (8, .keep), (9, .keep), (10, .keep), (11, .keep)], toks := [] }),
    (52, [0, 1, 0, 1], { live := [(0, .keep), (1, .im (.sl (.int .u32))), (2, .keep), (6, .keep), (10, .keep), (11, .keep)], toks := [(1099511627781, []), (1099511627782, [])] })]),
  (30, [(30, [0, 1, 0, 1, 1, 1], { live := [(0, .keep), (1, .keep), (6, .keep), (7, .keep)], toks := [] }),
    (30, [1, 1, 0, 0, 1, 0, 1, 1, 1], { live := [(0, .keep), (1, .keep), (6, .keep), (7, .keep)], toks := [] })]),
  (33, [(33, [0, 1, 0, 1, 1], { live := [(0, .im (.sl (.int .i64))), (3, .own 1099511627783 (.int .u8)), (4, .keep)], toks := [] })]),
  (36, [(36, [0, 1, 0, 1, 1, 1, 1], { live := [(5, .im (.sl (.int .u32))), (6, .im (.sl (.int .u32))), (7, .own 1099511627787 (.int .u32)), (8, .keep), (19, .keep), (20, .keep)], toks := [] })]),
  (39, [(39, [0, 1, 0, 1, 1, 1], { live := [(5, .im (.sl (.int .u32))), (6, .im (.sl (.int .u32))), (7, .own 1099511627793 (.int .u32)), (23, .keep), (24, .keep)], toks := [] }),
    (39, [0, 1, 0, 1, 1, 0, 0, 1, 1, 0, 0, 1, 0, 1, 1, 1], { live := [(5, .im (.sl (.int .u32))), (6, .im (.sl (.int .u32))), (7, .own 1099511627794 (.int .u32)), (8, .keep), (9, .keep), (23, .keep), (24, .keep), (28, .keep), (29, .keep)], toks := [] })]),
  (41, [(41, [0, 1, 0, 1, 1, 1], { live := [(0, .im (.sl (.int .u32))), (1, .keep), (5, .own 1099511627784 (.int .u32)), (6, .keep), (14, .im (.sl (.int .u32))), (15, .keep), (16, .keep)], toks := [] })]),
  (42, [(42, [0, 1, 0, 1, 1], { live := [(0, .im (.sl (.int .u32))), (1, .keep), (5, .own 1099511627785 (.int .u32)), (12, .keep), (13, .keep)], toks := [] }),
    (42, [1, 1, 1, 0, 0, 1, 1, 0, 0, 1, 0, 1, 1], { live := [(0, .im (.sl (.int .u32))), (1, .keep), (5, .own 1099511627786 (.int .u32)), (6, .keep), (7, .keep), (12, .keep), (13, .keep)], toks := [] })]),
  (45, [(45, [0, 0, 1, 1], { live := [(0, .keep), (3, .own 1099511627788 (.int .u32))], toks := [] }),
    (45, [0, 1, 0, 1, 1, 0, 1, 0, 0, 0, 1, 1], { live := [(0, .keep), (3, .own 1099511627789 (.int .u32)), (4, .keep), (5, .keep), (18, .im (.sl (.int .u8))), (19, .keep), (20, .keep)], toks := [] })]),
  (50, [(50, [0, 0, 1, 1, 1, 0, 1], { live := [(2, .keep), (3, .keep), (4, .keep), (12, .keep), (13, .keep)], toks := [] }),
    (50, [1, 0, 0, 0, 0, 1, 1, 1, 0, 1], { live := [(2, .keep), (3, .keep), (4, .keep), (12, .keep), (13, .keep), (36, .keep)], toks := [] })]),
  (53, [(53, [0, 1, 0, 1, 1, 1, 1], { live := [(0, .keep), (1, .keep), (5, .own 1099511627790 (.int .i64)), (6, .keep), (7, .keep)], toks := [] }),
    (53, [1, 1, 1, 0, 0, 1, 0, 0, 1, 0, 1, 1, 1, 1], { live := [(0, .keep), (1, .keep), (5, .own 1099511627791 (.int .i64)), (6, .keep), (7, .keep), (8, .keep)], toks := [] }),
    (53, [1, 0, 0, 0, 1, 0, 1, 1, 1, 1], { live := [(0, .keep), (1, .keep), (5, .own 1099511627792 (.int .i64)), (6, .keep), (7, .keep), (22, .keep)], toks := [] })]),
  (64, [(64, [0, 0, 1], { live := [(0, .im (.sl (.int .u32)))], toks := [] }),
    (64, [1, 0, 0, 0, 0, 1], { live := [(0, .im (.sl (.int .u32))), (14, .keep)], toks := [] })])]
noncomputable def extL : List ((j : Nat) × (den (tyL ((look ptsL j).getD [])) → Option (den (tyL ((look rtsL j).getD []))))) := [⟨27, H.shortF⟩, ⟨29, H.textDivF⟩, ⟨35, repeatF⟩, ⟨40, len64F⟩, ⟨46, H.cmpF⟩, ⟨47, trimLeftF⟩, ⟨49, lz32F⟩, ⟨61, H.textF⟩]
noncomputable def CT : Ctx where
  ti := look tis
  fn := look fns
  disp := fun _ f _ => match inls.elem f with
    | true => .inl
    | false => .spec f
  fid := fun i => i
  pts := fun i => (look ptsL i).getD []
  rts := fun i => (look rtsL i).getD []
  ext := lookE extL
  ann := fun i f p => match look annL i with
    | some l => lookP l f p
    | none => none
  inv := Inv
noncomputable abbrev abacistlaw02_DivideMods (x0 : List UInt8) (x1 : List UInt8) : Option (Bool) := (top CT).callF 3 (x0, x1)
noncomputable abbrev abacistlaw02_DivideMods_1 (a1 : List UInt8) (a2 : List UInt8) (a3 : Bool) : Option (Bool) := (top CT).stage 3 [] 3 [1, 0, 1] { env := [(0, (.str a1)), (1, (.str a2)), (18, (.bool a3))], heap := [], salt := 0 }
noncomputable abbrev abacistlaw02_DivideMods_2 (a1 : List UInt8) (a2 : List UInt8) (a3 : List UInt8) (a4 : List UInt8) (a5 : Int) (a6 : Bool) : Option (Bool) := (top CT).stage 3 [] 3 [1, 0, 1, 1, 1, 1] { env := [(0, (.str a1)), (1, (.str a2)), (5, (.str a3)), (6, (.str a4)), (10, (.int .i64 a5)), (46, (.bool a6))], heap := [], salt := 0 }
noncomputable abbrev abacistlaw02_DivideGcds (x0 : List UInt8) (x1 : List UInt8) : Option (Bool) := (top CT).callF 4 (x0, x1)
noncomputable abbrev abacistlaw02_DivideGcds_1 (a1 : List UInt8) (a2 : List UInt8) (a3 : Bool) : Option (Bool) := (top CT).stage 4 [] 4 [1, 0, 1] { env := [(0, (.str a1)), (1, (.str a2)), (19, (.bool a3))], heap := [], salt := 0 }
noncomputable abbrev abacistlaw02_DivideRoots (x0 : List UInt8) : Option (Bool) := (top CT).callF 5 (x0)
noncomputable abbrev abacistlaw02_DividePows (x0 : List UInt8) (x1 : Int) (x2 : Int) : Option (Bool) := (top CT).callF 6 (x0, x1, x2)
noncomputable abbrev abacistlaw02_DividePows_1 (a1 : List UInt8) (a2 : Int) (a3 : Int) (a4 : Bool) : Option (Bool) := (top CT).stage 6 [] 6 [1, 0, 1] { env := [(0, (.str a1)), (1, (.int .i64 a2)), (2, (.int .i64 a3)), (21, (.bool a4))], heap := [], salt := 0 }
noncomputable abbrev abacistlaw02_known : Option (Bool) := (top CT).callF 7 ()
noncomputable abbrev divide_DivMod (x0 : List UInt8) (x1 : List UInt8) : Option (List UInt8 × List UInt8 × Int) := (top CT).callF 8 (x0, x1)
noncomputable abbrev divide_DivMod_1 (a1 : List Int) (a2 : List Int) : Option (List UInt8 × List UInt8 × Int) := (top CT).stage 8 [] 8 [1, 1, 1] { env := [(7, (.sl (.int .u32) a1 false)), (8, (.sl (.int .u32) a2 false))], heap := [], salt := 0 }
noncomputable abbrev abacistref02_DivMod (x0 : List UInt8) (x1 : List UInt8) : Option (List UInt8 × List UInt8 × Int) := (top CT).callF 9 (x0, x1)
noncomputable abbrev abacistref02_DivMod_1 (a1 : List UInt8) (a2 : List UInt8) (a3 : List UInt8) (a4 : List UInt8) (a5 : Int) : Option (List UInt8 × List UInt8 × Int) := (top CT).stage 9 [] 9 [0, 1, 0, 1, 1, 1, 1, 1, 1] { env := [(0, (.str a1)), (1, (.str a2)), (7, (.str a3)), (8, (.str a4)), (9, (.int .i64 a5))], heap := [], salt := 0 }
noncomputable abbrev abacistref01_Add (x0 : List UInt8) (x1 : List UInt8) : Option (List UInt8) := (top CT).callF 10 (x0, x1)
noncomputable abbrev abacistref01_Add_1 (a1 : List UInt8) (a2 : List UInt8) (a3 : Int) (a4 : Int) (a5 : List Int) : Option (List UInt8) := (top CT).stage 10 [] 10 [0, 1, 0, 1, 1, 1] { env := [(0, (.str a1)), (1, (.str a2)), (5, (.who 1099511627778 false)), (6, (.int .i64 a3)), (7, (.int .i64 a4))], heap := [(1099511627778, .arr (.int .i64) a5)], salt := 0 }
noncomputable abbrev abacistref01_Add_2 (a1 : List UInt8) (a2 : List UInt8) (a3 : Int) (a4 : Int) (a5 : Bool) (a6 : List Int) : Option (List UInt8) := (top CT).stage 10 [] 10 [1, 0, 0, 0, 1, 0, 1, 1, 1] { env := [(0, (.str a1)), (1, (.str a2)), (5, (.who 1099511627779 false)), (6, (.int .i64 a3)), (7, (.int .i64 a4)), (22, (.bool a5))], heap := [(1099511627779, .arr (.int .i64) a6)], salt := 0 }
noncomputable abbrev abacistref01_Mul (x0 : List UInt8) (x1 : List UInt8) : Option (List UInt8) := (top CT).callF 11 (x0, x1)
noncomputable abbrev abacistref01_Mul_1 (a1 : List UInt8) (a2 : List UInt8) (a3 : Int) (a4 : List Int) : Option (List UInt8) := (top CT).stage 11 [] 11 [0, 1, 0, 1, 1] { env := [(0, (.str a1)), (1, (.str a2)), (5, (.who 1099511627776 false)), (6, (.int .i64 a3))], heap := [(1099511627776, .arr (.int .i64) a4)], salt := 0 }
noncomputable abbrev abacistref01_Mul_2 (a1 : List UInt8) (a2 : List UInt8) (a3 : Int) (a4 : Int) (a5 : Int) (a6 : Int) (a7 : List Int) : Option (List UInt8) := (top CT).stage 11 [] 11 [0, 1, 0, 1, 1, 0, 0, 1, 0, 0, 1, 0, 1, 1] { env := [(0, (.str a1)), (1, (.str a2)), (5, (.who 1099511627777 false)), (6, (.int .i64 a3)), (7, (.int .i64 a4)), (8, (.int .i64 a5)), (9, (.int .i64 a6))], heap := [(1099511627777, .arr (.int .i64) a7)], salt := 0 }
noncomputable abbrev abacistref01_Trim (x0 : List UInt8) : Option (List UInt8) := (top CT).callF 12 (x0)
noncomputable abbrev abacistref01_Trim_1 (a1 : List UInt8) : Option (List UInt8) := (top CT).stage 12 [] 12 [0, 0, 1] { env := [(0, (.str a1))], heap := [], salt := 0 }
noncomputable abbrev abacistref01_Trim_2 (a1 : List UInt8) (a2 : Bool) : Option (List UInt8) := (top CT).stage 12 [] 12 [1, 0, 0, 0, 0, 1] { env := [(0, (.str a1)), (10, (.bool a2))], heap := [], salt := 0 }
noncomputable abbrev abacistref01_Cmp (x0 : List UInt8) (x1 : List UInt8) : Option (Int) := (top CT).callF 13 (x0, x1)
noncomputable abbrev abacistref01_Cmp_1 (a1 : List UInt8) (a2 : List UInt8) (a3 : Bool) : Option (Int) := (top CT).stage 13 [] 13 [1, 0, 1, 1, 1] { env := [(0, (.str a1)), (1, (.str a2)), (25, (.bool a3))], heap := [], salt := 0 }
noncomputable abbrev divide_Gcd (x0 : List UInt8) (x1 : List UInt8) : Option (List UInt8) := (top CT).callF 14 (x0, x1)
noncomputable abbrev divide_Gcd_1 (a1 : List UInt8) (a2 : List UInt8) : Option (List UInt8) := (top CT).stage 14 [] 14 [0, 0, 1, 1] { env := [(0, (.str a1)), (1, (.str a2))], heap := [], salt := 0 }
noncomputable abbrev abacistref02_Gcd (x0 : List UInt8) (x1 : List UInt8) : Option (List UInt8) := (top CT).callF 15 (x0, x1)
noncomputable abbrev abacistref02_Gcd_1 (a1 : List UInt8) (a2 : List UInt8) (a3 : Int) : Option (List UInt8) := (top CT).stage 15 [] 15 [0, 1, 0, 1, 1, 1] { env := [(0, (.str a1)), (1, (.str a2)), (5, (.int .i64 a3))], heap := [], salt := 0 }
noncomputable abbrev abacistref02_Gcd_2 (a1 : List UInt8) (a2 : List UInt8) (a3 : Int) (a4 : Bool) : Option (List UInt8) := (top CT).stage 15 [] 15 [1, 0, 0, 0, 1, 0, 1, 1, 1] { env := [(0, (.str a1)), (1, (.str a2)), (5, (.int .i64 a3)), (15, (.bool a4))], heap := [], salt := 0 }
noncomputable abbrev divide_Root (x0 : List UInt8) : Option (List UInt8) := (top CT).callF 16 (x0)
noncomputable abbrev divide_Root_1 (a1 : List UInt8) (a2 : List UInt8) : Option (List UInt8) := (top CT).stage 16 [] 16 [0, 1, 1, 1, 1] { env := [(0, (.str a1)), (3, (.str a2))], heap := [], salt := 0 }
noncomputable abbrev abacistref02_Root (x0 : List UInt8) : Option (List UInt8) := (top CT).callF 17 (x0)
noncomputable abbrev abacistref02_Root_1 (a1 : List UInt8) (a2 : List UInt8) (a3 : Int) : Option (List UInt8) := (top CT).stage 17 [] 17 [0, 1, 0, 1, 1, 1] { env := [(0, (.str a1)), (3, (.str a2)), (4, (.int .i64 a3))], heap := [], salt := 0 }
noncomputable abbrev abacistref02_Root_2 (a1 : List UInt8) (a2 : List UInt8) (a3 : Int) (a4 : Int) : Option (List UInt8) := (top CT).stage 17 [] 17 [0, 1, 1, 0, 0, 1, 0, 0, 1, 0, 1, 1, 1] { env := [(0, (.str a1)), (3, (.str a2)), (4, (.int .i64 a3)), (5, (.int .i64 a4))], heap := [], salt := 0 }
noncomputable abbrev abacistref02_Root_3 (a1 : List UInt8) (a2 : List UInt8) (a3 : Int) (a4 : Int) (a5 : List UInt8) (a6 : Int) (a7 : List UInt8) (a8 : Int) : Option (List UInt8) := (top CT).stage 17 [] 17 [0, 1, 0, 1, 1, 1, 0, 0, 1, 0, 0, 1, 1, 0, 0, 1, 0, 0, 1, 0, 1, 1, 1] { env := [(0, (.str a1)), (3, (.str a2)), (4, (.int .i64 a3)), (5, (.int .i64 a4)), (6, (.str a5)), (7, (.int .i64 a6)), (8, (.str a7)), (9, (.int .i64 a8))], heap := [], salt := 0 }
noncomputable abbrev abacistref02_Root_4 (a1 : List UInt8) (a2 : List UInt8) (a3 : Int) (a4 : Int) : Option (List UInt8) := (top CT).stage 17 [] 17 [1, 1, 0, 0, 1, 1, 0, 0, 1, 0, 0, 1, 0, 1, 1, 1] { env := [(0, (.str a1)), (3, (.str a2)), (4, (.int .i64 a3)), (5, (.int .i64 a4))], heap := [], salt := 0 }
noncomputable abbrev divide_Pow (x0 : List UInt8) (x1 : Int) : Option (List UInt8 × Int) := (top CT).callF 18 (x0, x1)
noncomputable abbrev divide_Pow_1 (a1 : List UInt8) (a2 : Int) (a3 : Bool) : Option (List UInt8 × Int) := (top CT).stage 18 [] 18 [1, 1, 1, 1, 1, 0, 1, 0, 1] { env := [(0, (.str a1)), (1, (.int .i64 a2)), (18, (.bool a3))], heap := [], salt := 0 }
noncomputable abbrev divide_Pow_2 (a1 : List UInt8) (a2 : Int) (a3 : Int) (a4 : List UInt8) : Option (List UInt8 × Int) := (top CT).stage 18 [] 18 [0, 1, 0, 1, 1, 1, 1] { env := [(0, (.str a1)), (1, (.int .i64 a2)), (6, (.ptr 96 0)), (7, (.func 38 [] [(.ptr 96 0)])), (8, (.int .i64 a3))], heap := [(96, .box [(.str a4)])], salt := 0 }
noncomputable abbrev divide_Pow_3 (a1 : List UInt8) (a2 : List UInt8) (a3 : List UInt8) (a4 : Int) (a5 : Int) : Option (List UInt8 × Int) := (top CT).stage 18 [{ f := 18, path := [0, 0, 0, 1, 0, 0, 1, 0, 1, 1, 1, 1], op := 2, rest := [3, 4, 5, 6, 7, 8, 9, 10, 11, 12, 13, 14, 15, 16], env := [(0, (.str a3)), (1, (.int .i64 a4)), (6, (.ptr 96 0)), (7, (.func 38 [] [(.ptr 96 0)])), (8, (.int .i64 a5))], salt := 0 }] 38 [] { env := [(0, (.str a1)), (1, (.ptr 96 0))], heap := [(96, .box [(.str a2)])], salt := 43 }
noncomputable abbrev divide_Pow_4 (a1 : List UInt8) (a2 : Int) (a3 : Int) (a4 : Bool) (a5 : List UInt8) : Option (List UInt8 × Int) := (top CT).stage 18 [] 18 [1, 0, 0, 1, 0, 0, 1, 0, 1, 1, 1, 1] { env := [(0, (.str a1)), (1, (.int .i64 a2)), (6, (.ptr 96 0)), (7, (.func 38 [] [(.ptr 96 0)])), (8, (.int .i64 a3)), (56, (.bool a4))], heap := [(96, .box [(.str a5)])], salt := 0 }
noncomputable abbrev divide_Pow_5 (a1 : List UInt8) (a2 : List UInt8) (a3 : List UInt8) (a4 : Int) (a5 : Int) (a6 : Bool) (a7 : Bool) : Option (List UInt8 × Int) := (top CT).stage 18 [{ f := 18, path := [0, 0, 0, 1, 0, 0, 1, 0, 1, 1, 1, 1], op := 13, rest := [14, 15, 16], env := [(0, (.str a3)), (1, (.int .i64 a4)), (6, (.ptr 96 0)), (7, (.func 38 [] [(.ptr 96 0)])), (8, (.int .i64 a5)), (44, (.bool a6)), (50, (.bool a7))], salt := 0 }] 38 [] { env := [(0, (.str a1)), (1, (.ptr 96 0))], heap := [(96, .box [(.str a2)])], salt := 54 }
noncomputable abbrev abacistref02_Pow (x0 : List UInt8) (x1 : Int) : Option (List UInt8 × Int) := (top CT).callF 19 (x0, x1)
noncomputable abbrev abacistref02_Pow_1 (a1 : List UInt8) (a2 : Int) (a3 : Bool) : Option (List UInt8 × Int) := (top CT).stage 19 [] 19 [1, 0, 1, 1, 1] { env := [(0, (.str a1)), (1, (.int .i64 a2)), (25, (.bool a3))], heap := [], salt := 0 }
noncomputable abbrev abacistref02_Pow_2 (a1 : List UInt8) (a2 : Int) (a3 : List UInt8) (a4 : Int) : Option (List UInt8 × Int) := (top CT).stage 19 [] 19 [0, 1, 0, 1, 1, 1, 1, 1] { env := [(0, (.str a1)), (1, (.int .i64 a2)), (6, (.str a3)), (7, (.int .i64 a4))], heap := [], salt := 0 }
noncomputable abbrev divide_Shl (x0 : List UInt8) (x1 : Int) : Option (List UInt8 × Int) := (top CT).callF 20 (x0, x1)
noncomputable abbrev divide_Shl_1 (a1 : List UInt8) (a2 : Int) (a3 : Bool) : Option (List UInt8 × Int) := (top CT).stage 20 [] 20 [1, 1, 1, 1, 1, 0, 1, 0, 1] { env := [(0, (.str a1)), (1, (.int .i64 a2)), (15, (.bool a3))], heap := [], salt := 0 }
noncomputable abbrev abacistref02_Shl (x0 : List UInt8) (x1 : Int) : Option (List UInt8 × Int) := (top CT).callF 21 (x0, x1)
noncomputable abbrev abacistref02_Shl_1 (a1 : List UInt8) (a2 : Int) (a3 : Bool) : Option (List UInt8 × Int) := (top CT).stage 21 [] 21 [1, 0, 1, 1, 1, 1] { env := [(0, (.str a1)), (1, (.int .i64 a2)), (19, (.bool a3))], heap := [], salt := 0 }
noncomputable abbrev abacistref02_Shl_2 (a1 : List UInt8) (a2 : Int) (a3 : Int) : Option (List UInt8 × Int) := (top CT).stage 21 [] 21 [0, 1, 0, 1, 1, 1, 1, 1] { env := [(0, (.str a1)), (1, (.int .i64 a2)), (6, (.int .i64 a3))], heap := [], salt := 0 }
noncomputable abbrev divide_Shr (x0 : List UInt8) (x1 : Int) : Option (List UInt8) := (top CT).callF 22 (x0, x1)
noncomputable abbrev abacistref02_Shr (x0 : List UInt8) (x1 : Int) : Option (List UInt8) := (top CT).callF 23 (x0, x1)
noncomputable abbrev divide_read (x0 : List UInt8) : Option (List Int) := (top CT).callF 24 (x0)
noncomputable abbrev divide_read_1 (a1 : List UInt8) (a2 : List Int) : Option (List Int) := (top CT).stage 24 [] 24 [0, 1, 0, 1, 1] { env := [(0, (.str a1)), (3, (.who 1099511627780 false))], heap := [(1099511627780, .arr (.int .u32) a2)], salt := 0 }
noncomputable abbrev nat_Cmp (x0 : List UInt8) (x1 : List UInt8) : Option (Int) := (top CT).callF 25 (x0, x1)
noncomputable abbrev nat_Trim (x0 : List UInt8) : Option (List UInt8) := (top CT).callF 26 (x0)
noncomputable abbrev divide_limbs_short (x0 : List Int) (x1 : Int) : Option (List Int × List Int) := (top CT).callF 27 (x0, x1)
noncomputable abbrev divide_limbs_long (x0 : List Int) (x1 : List Int) : Option (List Int × List Int) := (top CT).callF 28 (x0, x1)
noncomputable abbrev divide_limbs_long_1 (a1 : List Int) (a2 : Int) (a3 : Int) (a4 : Int) (a5 : List Int) (a6 : List Int) : Option (List Int × List Int) := (top CT).stage 28 [] 28 [0, 1, 0, 1, 1, 1, 1, 1, 1] { env := [(1, (.sl (.int .u32) a1 false)), (6, (.int .i64 a2)), (7, (.who 1099511627781 false)), (8, (.int .i64 a3)), (9, (.who 1099511627782 false)), (10, (.int .i64 a4))], heap := [(1099511627781, .arr (.int .u32) a5), (1099511627782, .arr (.int .u32) a6)], salt := 0 }
noncomputable abbrev divide_limbs_long_2 (a1 : List Int) (a2 : Int) (a3 : Int) (a4 : List Int) (a5 : List Int) (a6 : List Int) (a7 : Int) (a8 : Int) (a9 : Int) (a10 : Int) : Option (List Int × List Int) := (top CT).stage 28 [{ f := 28, path := [0, 0, 1, 0, 0, 1, 0, 0, 1, 0, 1, 1, 1, 1, 1, 1], op := 4, rest := [5], env := [(1, (.sl (.int .u32) a6 false)), (6, (.int .i64 a7)), (7, (.who 1099511627781 false)), (8, (.int .i64 a8)), (9, (.who 1099511627782 false)), (10, (.int .i64 a9)), (11, (.int .u64 a10))], salt := 0 }] 51 [] { env := [(0, (.who 1099511627781 false)), (1, (.sl (.int .u32) a1 false)), (2, (.int .u64 a2)), (3, (.int .i64 a3))], heap := [(1099511627781, .arr (.int .u32) a4), (1099511627782, .arr (.int .u32) a5)], salt := 85 }
noncomputable abbrev divide_limbs_long_3 (a1 : List Int) (a2 : Int) (a3 : Int) (a4 : Int) (a5 : Int) (a6 : Int) (a7 : Int) (a8 : List Int) (a9 : List Int) (a10 : List Int) (a11 : Int) (a12 : Int) (a13 : Int) (a14 : Int) : Option (List Int × List Int) := (top CT).stage 28 [{ f := 28, path := [0, 0, 1, 0, 0, 1, 0, 0, 1, 0, 1, 1, 1, 1, 1, 1], op := 4, rest := [5], env := [(1, (.sl (.int .u32) a10 false)), (6, (.int .i64 a11)), (7, (.who 1099511627781 false)), (8, (.int .i64 a12)), (9, (.who 1099511627782 false)), (10, (.int .i64 a13)), (11, (.int .u64 a14))], salt := 0 }] 51 [0, 1, 0, 1, 1] { env := [(0, (.who 1099511627781 false)), (1, (.sl (.int .u32) a1 false)), (2, (.int .u64 a2)), (3, (.int .i64 a3)), (9, (.int .u64 a4)), (10, (.int .u64 a5)), (16, (.int .i64 a6)), (17, (.int .i64 a7))], heap := [(1099511627781, .arr (.int .u32) a8), (1099511627782, .arr (.int .u32) a9)], salt := 85 }
noncomputable abbrev divide_limbs_long_4 (a1 : List Int) (a2 : Int) (a3 : List Int) (a4 : List Int) (a5 : List Int) (a6 : Int) (a7 : Int) (a8 : Int) (a9 : Int) : Option (List Int × List Int) := (top CT).stage 28 [{ f := 28, path := [1, 0, 1, 0, 1, 0, 0, 1, 0, 0, 1, 0, 1, 1, 1, 1, 1, 1], op := 3, rest := [], env := [(1, (.sl (.int .u32) a5 false)), (6, (.int .i64 a6)), (7, (.who 1099511627781 false)), (8, (.int .i64 a7)), (9, (.who 1099511627782 false)), (10, (.int .i64 a8)), (11, (.int .u64 a9))], salt := 0 }] 52 [] { env := [(0, (.who 1099511627781 false)), (1, (.sl (.int .u32) a1 false)), (2, (.int .i64 a2))], heap := [(1099511627781, .arr (.int .u32) a3), (1099511627782, .arr (.int .u32) a4)], salt := 92 }
noncomputable abbrev divide_limbs_long_5 (a1 : List Int) (a2 : Int) (a3 : Int) (a4 : Int) (a5 : Int) (a6 : List Int) (a7 : List Int) (a8 : List Int) (a9 : Int) (a10 : Int) (a11 : Int) (a12 : Int) : Option (List Int × List Int) := (top CT).stage 28 [{ f := 28, path := [1, 0, 1, 0, 1, 0, 0, 1, 0, 0, 1, 0, 1, 1, 1, 1, 1, 1], op := 3, rest := [], env := [(1, (.sl (.int .u32) a8 false)), (6, (.int .i64 a9)), (7, (.who 1099511627781 false)), (8, (.int .i64 a10)), (9, (.who 1099511627782 false)), (10, (.int .i64 a11)), (11, (.int .u64 a12))], salt := 0 }] 52 [0, 1, 0, 1] { env := [(0, (.who 1099511627781 false)), (1, (.sl (.int .u32) a1 false)), (2, (.int .i64 a2)), (6, (.int .u64 a3)), (10, (.int .i64 a4)), (11, (.int .i64 a5))], heap := [(1099511627781, .arr (.int .u32) a6), (1099511627782, .arr (.int .u32) a7)], salt := 92 }
noncomputable abbrev divide_limbs_text (x0 : List Int) : Option (List UInt8) := (top CT).callF 29 (x0)
noncomputable abbrev abacistref02_digit (x0 : List UInt8) (x1 : List UInt8) : Option (Int × List UInt8) := (top CT).callF 30 (x0, x1)
noncomputable abbrev abacistref02_digit_1 (a1 : List UInt8) (a2 : List UInt8) (a3 : Int) (a4 : Int) : Option (Int × List UInt8) := (top CT).stage 30 [] 30 [0, 1, 0, 1, 1, 1] { env := [(0, (.str a1)), (1, (.str a2)), (6, (.int .i64 a3)), (7, (.int .i64 a4))], heap := [], salt := 0 }
noncomputable abbrev abacistref02_digit_2 (a1 : List UInt8) (a2 : List UInt8) (a3 : Int) (a4 : Int) : Option (Int × List UInt8) := (top CT).stage 30 [] 30 [1, 1, 0, 0, 1, 0, 1, 1, 1] { env := [(0, (.str a1)), (1, (.str a2)), (6, (.int .i64 a3)), (7, (.int .i64 a4))], heap := [], salt := 0 }
noncomputable abbrev abacistref01_Byte (x0 : Int) : Option (List UInt8) := (top CT).callF 31 (x0)
noncomputable abbrev abacistref01_at (x0 : List UInt8) (x1 : Int) : Option (Int) := (top CT).callF 32 (x0, x1)
noncomputable abbrev abacistref01_turned (x0 : List Int) : Option (List UInt8) := (top CT).callF 33 (x0)
noncomputable abbrev abacistref01_turned_1 (a1 : List Int) (a2 : Int) (a3 : List Int) : Option (List UInt8) := (top CT).stage 33 [] 33 [0, 1, 0, 1, 1] { env := [(0, (.sl (.int .i64) a1 false)), (3, (.who 1099511627783 false)), (4, (.int .i64 a2))], heap := [(1099511627783, .arr (.int .u8) a3)], salt := 0 }
noncomputable abbrev abacistref02_Mod (x0 : List UInt8) (x1 : List UInt8) : Option (List UInt8) := (top CT).callF 34 (x0, x1)
noncomputable abbrev strings_Repeat (x0 : List UInt8) (x1 : Int) : Option (List UInt8) := (top CT).callF 35 (x0, x1)
noncomputable abbrev nat_Add (x0 : List UInt8) (x1 : List UInt8) : Option (List UInt8) := (top CT).callF 36 (x0, x1)
noncomputable abbrev nat_Add_1 (a1 : List Int) (a2 : List Int) (a3 : Int) (a4 : Int) (a5 : Int) (a6 : List Int) : Option (List UInt8) := (top CT).stage 36 [] 36 [0, 1, 0, 1, 1, 1, 1] { env := [(5, (.sl (.int .u32) a1 false)), (6, (.sl (.int .u32) a2 false)), (7, (.who 1099511627787 false)), (8, (.int .u64 a3)), (19, (.int .i64 a4)), (20, (.int .i64 a5))], heap := [(1099511627787, .arr (.int .u32) a6)], salt := 0 }
noncomputable abbrev nat_Of (x0 : Int) : Option (List UInt8) := (top CT).callF 37 (x0)
noncomputable abbrev nat_Mul (x0 : List UInt8) (x1 : List UInt8) : Option (List UInt8) := (top CT).callF 39 (x0, x1)
noncomputable abbrev nat_Mul_1 (a1 : List Int) (a2 : List Int) (a3 : Int) (a4 : Int) (a5 : List Int) : Option (List UInt8) := (top CT).stage 39 [] 39 [0, 1, 0, 1, 1, 1] { env := [(5, (.sl (.int .u32) a1 false)), (6, (.sl (.int .u32) a2 false)), (7, (.who 1099511627793 false)), (23, (.int .i64 a3)), (24, (.int .i64 a4))], heap := [(1099511627793, .arr (.int .u32) a5)], salt := 0 }
noncomputable abbrev nat_Mul_2 (a1 : List Int) (a2 : List Int) (a3 : Int) (a4 : Int) (a5 : Int) (a6 : Int) (a7 : Int) (a8 : Int) (a9 : List Int) : Option (List UInt8) := (top CT).stage 39 [] 39 [0, 1, 0, 1, 1, 0, 0, 1, 1, 0, 0, 1, 0, 1, 1, 1] { env := [(5, (.sl (.int .u32) a1 false)), (6, (.sl (.int .u32) a2 false)), (7, (.who 1099511627794 false)), (8, (.int .i64 a3)), (9, (.int .u64 a4)), (23, (.int .i64 a5)), (24, (.int .i64 a6)), (28, (.int .i64 a7)), (29, (.int .i64 a8))], heap := [(1099511627794, .arr (.int .u32) a9)], salt := 0 }
noncomputable abbrev math_bits_Len (x0 : Int) : Option (Int) := (top CT).callF 40 (x0)
noncomputable abbrev divide_limbs_shifted (x0 : List Int) (x1 : Int) : Option (List Int) := (top CT).callF 41 (x0, x1)
noncomputable abbrev divide_limbs_shifted_1 (a1 : List Int) (a2 : Int) (a3 : Int) (a4 : List Int) (a5 : Int) (a6 : Int) (a7 : List Int) : Option (List Int) := (top CT).stage 41 [] 41 [0, 1, 0, 1, 1, 1] { env := [(0, (.sl (.int .u32) a1 false)), (1, (.int .i64 a2)), (5, (.who 1099511627784 false)), (6, (.int .u64 a3)), (14, (.sl (.int .u32) a4 false)), (15, (.int .i64 a5)), (16, (.int .i64 a6))], heap := [(1099511627784, .arr (.int .u32) a7)], salt := 0 }
noncomputable abbrev divide_limbs_back (x0 : List Int) (x1 : Int) : Option (List Int) := (top CT).callF 42 (x0, x1)
noncomputable abbrev divide_limbs_back_1 (a1 : List Int) (a2 : Int) (a3 : Int) (a4 : Int) (a5 : List Int) : Option (List Int) := (top CT).stage 42 [] 42 [0, 1, 0, 1, 1] { env := [(0, (.sl (.int .u32) a1 false)), (1, (.int .i64 a2)), (5, (.who 1099511627785 false)), (12, (.int .i64 a3)), (13, (.int .i64 a4))], heap := [(1099511627785, .arr (.int .u32) a5)], salt := 0 }
noncomputable abbrev divide_limbs_back_2 (a1 : List Int) (a2 : Int) (a3 : Int) (a4 : Int) (a5 : Int) (a6 : Int) (a7 : List Int) : Option (List Int) := (top CT).stage 42 [] 42 [1, 1, 1, 0, 0, 1, 1, 0, 0, 1, 0, 1, 1] { env := [(0, (.sl (.int .u32) a1 false)), (1, (.int .i64 a2)), (5, (.who 1099511627786 false)), (6, (.int .i64 a3)), (7, (.int .u64 a4)), (12, (.int .i64 a5)), (13, (.int .i64 a6))], heap := [(1099511627786, .arr (.int .u32) a7)], salt := 0 }
noncomputable abbrev abacistref02_Div (x0 : List UInt8) (x1 : List UInt8) : Option (List UInt8) := (top CT).callF 43 (x0, x1)
noncomputable abbrev nat_Small (x0 : List UInt8) : Option (Int × Bool) := (top CT).callF 44 (x0)
noncomputable abbrev nat_read (x0 : List UInt8) : Option (List Int) := (top CT).callF 45 (x0)
noncomputable abbrev nat_read_1 (a1 : List UInt8) (a2 : List Int) : Option (List Int) := (top CT).stage 45 [] 45 [0, 0, 1, 1] { env := [(0, (.str a1)), (3, (.who 1099511627788 false))], heap := [(1099511627788, .arr (.int .u32) a2)], salt := 0 }
noncomputable abbrev nat_read_2 (a1 : List UInt8) (a2 : Int) (a3 : Int) (a4 : List Int) (a5 : Int) (a6 : Int) (a7 : List Int) : Option (List Int) := (top CT).stage 45 [] 45 [0, 1, 0, 1, 1, 0, 1, 0, 0, 0, 1, 1] { env := [(0, (.str a1)), (3, (.who 1099511627789 false)), (4, (.int .i64 a2)), (5, (.int .u32 a3)), (18, (.sl (.int .u8) a4 false)), (19, (.int .i64 a5)), (20, (.int .i64 a6))], heap := [(1099511627789, .arr (.int .u32) a7)], salt := 0 }
noncomputable abbrev nat_limbs_cmp (x0 : List Int) (x1 : List Int) : Option (Int) := (top CT).callF 46 (x0, x1)
noncomputable abbrev strings_TrimLeft (x0 : List UInt8) (x1 : List UInt8) : Option (List UInt8) := (top CT).callF 47 (x0, x1)
noncomputable abbrev math_bits_LeadingZeros32 (x0 : Int) : Option (Int) := (top CT).callF 49 (x0)
noncomputable abbrev divide_guess (x0 : Int) (x1 : Int) (x2 : Int) (x3 : Int) (x4 : Int) : Option (Int) := (top CT).callF 50 (x0, x1, x2, x3, x4)
noncomputable abbrev divide_guess_1 (a1 : Int) (a2 : Int) (a3 : Int) (a4 : Int) (a5 : Int) : Option (Int) := (top CT).stage 50 [] 50 [0, 0, 1, 1, 1, 0, 1] { env := [(2, (.int .u64 a1)), (3, (.int .u64 a2)), (4, (.int .u64 a3)), (12, (.int .u64 a4)), (13, (.int .u64 a5))], heap := [], salt := 0 }
noncomputable abbrev divide_guess_2 (a1 : Int) (a2 : Int) (a3 : Int) (a4 : Int) (a5 : Int) (a6 : Bool) : Option (Int) := (top CT).stage 50 [] 50 [1, 0, 0, 0, 0, 1, 1, 1, 0, 1] { env := [(2, (.int .u64 a1)), (3, (.int .u64 a2)), (4, (.int .u64 a3)), (12, (.int .u64 a4)), (13, (.int .u64 a5)), (36, (.bool a6))], heap := [], salt := 0 }
noncomputable abbrev abacistref01_Sub (x0 : List UInt8) (x1 : List UInt8) : Option (List UInt8) := (top CT).callF 53 (x0, x1)
noncomputable abbrev abacistref01_Sub_1 (a1 : List UInt8) (a2 : List UInt8) (a3 : Int) (a4 : Int) (a5 : List Int) : Option (List UInt8) := (top CT).stage 53 [] 53 [0, 1, 0, 1, 1, 1, 1] { env := [(0, (.str a1)), (1, (.str a2)), (5, (.who 1099511627790 false)), (6, (.int .i64 a3)), (7, (.int .i64 a4))], heap := [(1099511627790, .arr (.int .i64) a5)], salt := 0 }
noncomputable abbrev abacistref01_Sub_2 (a1 : List UInt8) (a2 : List UInt8) (a3 : Int) (a4 : Int) (a5 : Bool) (a6 : List Int) : Option (List UInt8) := (top CT).stage 53 [] 53 [1, 0, 0, 0, 1, 0, 1, 1, 1, 1] { env := [(0, (.str a1)), (1, (.str a2)), (5, (.who 1099511627792 false)), (6, (.int .i64 a3)), (7, (.int .i64 a4)), (22, (.bool a5))], heap := [(1099511627792, .arr (.int .i64) a6)], salt := 0 }
noncomputable abbrev abacistref01_Sub_3 (a1 : List UInt8) (a2 : List UInt8) (a3 : Int) (a4 : Int) (a5 : Int) (a6 : List Int) : Option (List UInt8) := (top CT).stage 53 [] 53 [1, 1, 1, 0, 0, 1, 0, 0, 1, 0, 1, 1, 1, 1] { env := [(0, (.str a1)), (1, (.str a2)), (5, (.who 1099511627791 false)), (6, (.int .i64 a3)), (7, (.int .i64 a4)), (8, (.int .i64 a5))], heap := [(1099511627791, .arr (.int .i64) a6)], salt := 0 }
noncomputable abbrev nat_limbs_at (x0 : List Int) (x1 : Int) : Option (Int) := (top CT).callF 60 (x0, x1)
noncomputable abbrev nat_limbs_text (x0 : List Int) : Option (List UInt8) := (top CT).callF 61 (x0)
noncomputable abbrev nat_limbs_cut (x0 : List Int) : Option (List Int) := (top CT).callF 64 (x0)
noncomputable abbrev nat_limbs_cut_1 (a1 : List Int) : Option (List Int) := (top CT).stage 64 [] 64 [0, 0, 1] { env := [(0, (.sl (.int .u32) a1 false))], heap := [], salt := 0 }
noncomputable abbrev nat_limbs_cut_2 (a1 : List Int) (a2 : Bool) : Option (List Int) := (top CT).stage 64 [] 64 [1, 0, 0, 0, 0, 1] { env := [(0, (.sl (.int .u32) a1 false)), (14, (.bool a2))], heap := [], salt := 0 }
end Go.Proofs.YtidlkgbaobfiaaaDoor.K
