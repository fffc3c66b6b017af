/- The machine at this seat: tables, names. -/
import Derived.Test.YtcdcijhfjiahkaaDoorRKM
import Derived.Test.YtcdcijhfjiahkaaDoorRProg
set_option linter.unusedVariables false
set_option maxRecDepth 100000
namespace Go.Proofs.YtcdcijhfjiahkaaDoorR.B
open Go Go.Proofs.YtcdcijhfjiahkaaDoorR.K
def look {α : Type} : List (Nat × α) → Nat → Option α
  | [], _ => none
  | (u, v) :: l, t => match Nat.beq u t with
    | true => some v
    | false => look l t
def peq : Path → Path → Bool
  | [], [] => true
  | a :: p, b :: q => Nat.beq a b && peq p q
  | _, _ => false
def lookP : List (Nat × Path × Ann) → Nat → Path → Option Ann
  | [], _, _ => none
  | (g, u, v) :: l, f, t => match Nat.beq g f && peq u t with
    | true => some v
    | false => lookP l f t
def Inv (w : World) : Prop := MaxLen w
theorem inv_max : ∀ w, Inv w → MaxLen w := fun _ h => h
theorem inv_keeps : ∀ w w', Inv w → RowKit.Below w.heap.size w w' → Inv w' := maxLen_keeps
noncomputable def ti9 : TI := { sh := .str, size := 1, bytes := 16, zero := [(.str [])], ty := some .str, fl := [], eq := false }
noncomputable def ti82 : TI := { sh := (.sl 86), size := 1, bytes := 24, zero := [.nilsl], ty := some (.sl (.int .u32)), fl := [], eq := false }
noncomputable def ti86 : TI := { sh := (.int .u32), size := 1, bytes := 4, zero := [(.int .u32 0)], ty := some (.int .u32), fl := [], eq := false }
noncomputable def tis : List (Nat × TI) := [(9, ti9), (82, ti82), (86, ti86)]
noncomputable def fns : List (Nat × Func) := [(17, Tryd.f17), (76, Tryd.f76), (107, Tryd.f107)]
def inls : List Nat := []
noncomputable def ptsL : List (Nat × List Ty) := [(17, [.str]), (76, [.str, .str]), (107, [(.sl (.int .u32))])]
noncomputable def rtsL : List (Nat × List Ty) := [(17, [.str]), (76, [.str]), (107, [(.sl (.int .u32))])]
noncomputable def annL : List (Nat × List (Nat × Path × Ann)) := [
  (107, [(107, [0, 0, 1], { live := [(0, .im (.sl (.int .u32)))], toks := [] }),
    (107, [1, 0, 0, 0, 0, 1], { live := [(0, .im (.sl (.int .u32))), (14, .keep)], toks := [] })])]
noncomputable def extL : List ((j : Nat) × (den (tyL ((look ptsL j).getD [])) → Option (den (tyL ((look rtsL j).getD []))))) := [⟨76, trimLeftF⟩]
noncomputable def CT : Ctx where
  ti := look tis
  fn := look fns
  disp := fun _ f _ => match inls.elem f with
    | true => .inl
    | false => .spec f
  fid := fun i => i
  pts := fun i => (look ptsL i).getD []
  rts := fun i => (look rtsL i).getD []
  ext := lookE extL
  ann := fun i f p => match look annL i with
    | some l => lookP l f p
    | none => none
  inv := Inv
noncomputable abbrev nat_Trim (x0 : List UInt8) : Option (List UInt8) := (top CT).callF 17 (x0)
noncomputable abbrev strings_TrimLeft (x0 : List UInt8) (x1 : List UInt8) : Option (List UInt8) := (top CT).callF 76 (x0, x1)
noncomputable abbrev nat_limbs_cut (x0 : List Int) : Option (List Int) := (top CT).callF 107 (x0)
noncomputable abbrev nat_limbs_cut_1 (a1 : List Int) : Option (List Int) := (top CT).stage 107 [] 107 [0, 0, 1] { env := [(0, (.sl (.int .u32) a1 false))], heap := [], salt := 0 }
noncomputable abbrev nat_limbs_cut_2 (a1 : List Int) (a2 : Bool) : Option (List Int) := (top CT).stage 107 [] 107 [1, 0, 0, 0, 0, 1] { env := [(0, (.sl (.int .u32) a1 false)), (14, (.bool a2))], heap := [], salt := 0 }
end Go.Proofs.YtcdcijhfjiahkaaDoorR.B
