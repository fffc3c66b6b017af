/- Part 7 of the proof: the machine, the tables and the pure laws that the last text joins. -/
import Derived.Test.YtdobmpkdgkifpaaGreatDoorZ4
import Derived.Test.YtdobmpkdgkifpaaGreatDoorZ6
import Derived.Test.YtdobmpkdgkifpaaGreatDoorProg
/- The machine at this seat: tables, names. -/
set_option linter.unusedVariables false
set_option maxRecDepth 100000
namespace Go.Proofs.YtdobmpkdgkifpaaGreatDoor.K
open Go
def look {α : Type} : List (Nat × α) → Nat → Option α
  | [], _ => none
  | (u, v) :: l, t => match Nat.beq u t with
    | true => some v
    | false => look l t
def peq : Path → Path → Bool
  | [], [] => true
  | a :: p, b :: q => Nat.beq a b && peq p q
  | _, _ => false
def lookP : List (Nat × Path × Ann) → Nat → Path → Option Ann
  | [], _, _ => none
  | (g, u, v) :: l, f, t => match Nat.beq g f && peq u t with
    | true => some v
    | false => lookP l f t
def Inv (w : World) : Prop := MaxLen w
theorem inv_max : ∀ w, Inv w → MaxLen w := fun _ h => h
theorem inv_keeps : ∀ w w', Inv w → RowKit.Below w.heap.size w w' → Inv w' := maxLen_keeps
noncomputable def ti2 : TI := { sh := (.int .i64), size := 1, bytes := 8, zero := [(.int .i64 0)], ty := some (.int .i64), fl := [], eq := false }
noncomputable def ti3 : TI := { sh := (.int .i64), size := 1, bytes := 8, zero := [(.int .i64 0)], ty := some (.int .i64), fl := [], eq := false }
noncomputable def ti4 : TI := { sh := .bool, size := 1, bytes := 1, zero := [(.bool false)], ty := some .bool, fl := [], eq := false }
noncomputable def ti5 : TI := { sh := (.int .u8), size := 1, bytes := 1, zero := [(.int .u8 0)], ty := some (.int .u8), fl := [], eq := false }
noncomputable def ti9 : TI := { sh := .str, size := 1, bytes := 16, zero := [(.str [])], ty := some .str, fl := [], eq := false }
noncomputable def ti22 : TI := { sh := (.sl 9), size := 1, bytes := 24, zero := [.nilsl], ty := some (.sl .str), fl := [], eq := false }
noncomputable def ti27 : TI := { sh := (.st [(0, 4), (1, 9), (2, 9)]), size := 3, bytes := 40, zero := [(.bool false), (.str []), (.str [])], ty := some (.pair .bool (.pair .str .str)), fl := [(0, 1, false), (1, 1, false), (2, 1, false)], eq := true }
noncomputable def ti29 : TI := { sh := (.st [(0, 3), (1, 27), (4, 9), (5, 4), (6, 3)]), size := 7, bytes := 80, zero := [(.int .i64 0), (.bool false), (.str []), (.str []), (.str []), (.bool false), (.int .i64 0)], ty := some (.pair (.int .i64) (.pair (.pair .bool (.pair .str .str)) (.pair .str (.pair .bool (.int .i64))))), fl := [(0, 1, false), (1, 3, true), (4, 1, false), (5, 1, false), (6, 1, false)], eq := true }
noncomputable def ti30 : TI := { sh := (.sl 29), size := 1, bytes := 24, zero := [.nilsl], ty := some (.sl (.pair (.int .i64) (.pair (.pair .bool (.pair .str .str)) (.pair .str (.pair .bool (.int .i64)))))), fl := [], eq := false }
noncomputable def ti32 : TI := { sh := (.st [(0, 30), (1, 3), (2, 4), (3, 3), (4, 3)]), size := 5, bytes := 56, zero := [.nilsl, (.int .i64 0), (.bool false), (.int .i64 0), (.int .i64 0)], ty := some (.pair (.sl (.pair (.int .i64) (.pair (.pair .bool (.pair .str .str)) (.pair .str (.pair .bool (.int .i64)))))) (.pair (.int .i64) (.pair .bool (.pair (.int .i64) (.int .i64))))), fl := [(0, 1, false), (1, 1, false), (2, 1, false), (3, 1, false), (4, 1, false)], eq := false }
noncomputable def ti36 : TI := { sh := (.st [(0, 3), (1, 3), (2, 3)]), size := 3, bytes := 24, zero := [(.int .i64 0), (.int .i64 0), (.int .i64 0)], ty := some (.pair (.int .i64) (.pair (.int .i64) (.int .i64))), fl := [(0, 1, false), (1, 1, false), (2, 1, false)], eq := false }
noncomputable def ti53 : TI := { sh := (.st [(0, 4), (1, 9)]), size := 2, bytes := 24, zero := [(.bool false), (.str [])], ty := some (.pair .bool .str), fl := [(0, 1, false), (1, 1, false)], eq := true }
noncomputable def ti56 : TI := { sh := (.sl 32), size := 1, bytes := 24, zero := [.nilsl], ty := some (.sl (.pair (.sl (.pair (.int .i64) (.pair (.pair .bool (.pair .str .str)) (.pair .str (.pair .bool (.int .i64)))))) (.pair (.int .i64) (.pair .bool (.pair (.int .i64) (.int .i64)))))), fl := [], eq := false }
noncomputable def ti83 : TI := { sh := (.sl 3), size := 1, bytes := 24, zero := [.nilsl], ty := some (.sl (.int .i64)), fl := [], eq := false }
noncomputable def ti99 : TI := { sh := (.int .u64), size := 1, bytes := 8, zero := [(.int .u64 0)], ty := some (.int .u64), fl := [], eq := false }
noncomputable def ti108 : TI := { sh := (.arr 8 9), size := 8, bytes := 128, zero := [(.str []), (.str []), (.str []), (.str []), (.str []), (.str []), (.str []), (.str [])], ty := none, fl := [], eq := false }
noncomputable def ti113 : TI := { sh := (.st [(0, 3), (1, 27), (4, 9), (5, 4), (6, 3)]), size := 7, bytes := 80, zero := [(.int .i64 0), (.bool false), (.str []), (.str []), (.str []), (.bool false), (.int .i64 0)], ty := some (.pair (.int .i64) (.pair (.pair .bool (.pair .str .str)) (.pair .str (.pair .bool (.int .i64))))), fl := [(0, 1, false), (1, 3, true), (4, 1, false), (5, 1, false), (6, 1, false)], eq := false }
noncomputable def ti122 : TI := { sh := (.sl 5), size := 1, bytes := 24, zero := [.nilsl], ty := some (.sl (.int .u8)), fl := [], eq := false }
noncomputable def tis : List (Nat × TI) := [(2, ti2), (3, ti3), (4, ti4), (5, ti5), (9, ti9), (22, ti22), (27, ti27), (29, ti29), (30, ti30), (32, ti32), (36, ti36), (53, ti53), (56, ti56), (83, ti83), (99, ti99), (108, ti108), (113, ti113), (122, ti122)]
noncomputable def fns : List (Nat × Func) := [(3, Tryz.f3), (4, Tryz.f4), (5, Tryz.f5), (6, Tryz.f6), (7, Tryz.f7), (8, Tryz.f8), (9, Tryz.f9), (10, Tryz.f10), (11, Tryz.f11), (12, Tryz.f12), (13, Tryz.f13), (14, Tryz.f14), (15, Tryz.f15), (16, Tryz.f16), (17, Tryz.f17), (18, Tryz.f18), (19, Tryz.f19), (20, Tryz.f20), (21, Tryz.f21), (22, Tryz.f22), (23, Tryz.f23), (24, Tryz.f24), (25, Tryz.f25), (27, Tryz.f27), (28, Tryz.f28), (29, Tryz.f29), (30, Tryz.f30), (31, Tryz.f31), (32, Tryz.f32), (33, Tryz.f33), (34, Tryz.f34), (35, Tryz.f35), (36, Tryz.f36), (37, Tryz.f37), (38, Tryz.f38), (39, Tryz.f39), (40, Tryz.f40), (41, Tryz.f41), (42, Tryz.f42), (43, Tryz.f43), (44, Tryz.f44), (45, Tryz.f45), (46, Tryz.f46), (47, Tryz.f47), (48, Tryz.f48), (49, Tryz.f49), (50, Tryz.f50), (51, Tryz.f51), (52, Tryz.f52), (56, Tryz.f56), (57, Tryz.f57), (58, Tryz.f58), (59, Tryz.f59), (60, Tryz.f60), (61, Tryz.f61), (62, Tryz.f62), (64, Tryz.f64), (65, Tryz.f65), (66, Tryz.f66), (67, Tryz.f67), (68, Tryz.f68), (69, Tryz.f69), (70, Tryz.f70), (72, Tryz.f72), (75, Tryz.f75), (78, Tryz.f78), (79, Tryz.f79), (80, Tryz.f80), (81, Tryz.f81), (82, Tryz.f82), (83, Tryz.f83), (84, Tryz.f84), (85, Tryz.f85), (87, Tryz.f87), (88, Tryz.f88), (89, Tryz.f89), (90, Tryz.f90), (91, Tryz.f91), (92, Tryz.f92), (94, Tryz.f94), (96, Tryz.f96), (98, Tryz.f98), (99, Tryz.f99), (100, Tryz.f100), (101, Tryz.f101), (102, Tryz.f102), (103, Tryz.f103), (104, Tryz.f104), (105, Tryz.f105), (106, Tryz.f106), (107, Tryz.f107), (108, Tryz.f108), (109, Tryz.f109), (110, Tryz.f110), (111, Tryz.f111), (112, Tryz.f112), (113, Tryz.f113), (114, Tryz.f114), (115, Tryz.f115), (116, Tryz.f116), (118, Tryz.f118), (119, Tryz.f119), (120, Tryz.f120), (121, Tryz.f121), (122, Tryz.f122), (123, Tryz.f123), (124, Tryz.f124), (125, Tryz.f125), (126, Tryz.f126), (128, Tryz.f128), (129, Tryz.f129), (133, Tryz.f133), (134, Tryz.f134), (138, Tryz.f138), (139, Tryz.f139), (140, Tryz.f140), (142, Tryz.f142), (143, Tryz.f143), (144, Tryz.f144), (154, Tryz.f154), (157, Tryz.f157), (159, Tryz.f159), (160, Tryz.f160), (161, Tryz.f161), (26, Tryz.f26), (53, Tryz.f53), (54, Tryz.f54), (55, Tryz.f55), (63, Tryz.f63), (76, Tryz.f76), (77, Tryz.f77), (86, Tryz.f86), (97, Tryz.f97)]
def inls : List Nat := [26, 53, 54, 55, 63, 76, 77, 86, 97]
noncomputable def ptsL : List (Nat × List Ty) := [(3, [(.int .i64)]), (4, [(.pair (.int .i64) (.pair (.pair .bool (.pair .str .str)) (.pair .str (.pair .bool (.int .i64))))), (.sl (.pair (.int .i64) (.pair (.pair .bool (.pair .str .str)) (.pair .str (.pair .bool (.int .i64)))))), (.int .i64)]), (5, []), (6, []), (7, []), (8, [(.pair (.sl (.pair (.int .i64) (.pair (.pair .bool (.pair .str .str)) (.pair .str (.pair .bool (.int .i64)))))) (.pair (.int .i64) (.pair .bool (.pair (.int .i64) (.int .i64)))))]), (9, [(.pair (.int .i64) (.pair (.pair .bool (.pair .str .str)) (.pair .str (.pair .bool (.int .i64)))))]), (10, [(.pair .bool (.pair .str .str)), (.pair .bool (.pair .str .str))]), (11, [.str, (.pair (.int .i64) (.pair (.int .i64) (.int .i64))), (.sl (.pair (.sl (.pair (.int .i64) (.pair (.pair .bool (.pair .str .str)) (.pair .str (.pair .bool (.int .i64)))))) (.pair (.int .i64) (.pair .bool (.pair (.int .i64) (.int .i64))))))]), (12, [(.int .i64)]), (13, [(.pair (.int .i64) (.pair (.pair .bool (.pair .str .str)) (.pair .str (.pair .bool (.int .i64)))))]), (14, [(.int .i64)]), (15, [(.pair (.int .i64) (.pair (.pair .bool (.pair .str .str)) (.pair .str (.pair .bool (.int .i64))))), (.pair (.int .i64) (.pair (.pair .bool (.pair .str .str)) (.pair .str (.pair .bool (.int .i64)))))]), (16, [.str]), (17, [(.int .i64)]), (18, [(.pair .bool (.pair .str .str))]), (19, [.str]), (20, [(.pair .bool .str), (.pair .bool .str)]), (21, [(.pair .bool .str), (.pair .bool .str)]), (22, [(.pair .bool (.pair .str .str))]), (23, [(.pair .bool (.pair .str .str))]), (24, [.str]), (25, [(.int .i64)]), (27, [(.pair (.sl (.pair (.int .i64) (.pair (.pair .bool (.pair .str .str)) (.pair .str (.pair .bool (.int .i64)))))) (.pair (.int .i64) (.pair .bool (.pair (.int .i64) (.int .i64)))))]), (28, [(.pair (.sl (.pair (.int .i64) (.pair (.pair .bool (.pair .str .str)) (.pair .str (.pair .bool (.int .i64)))))) (.pair (.int .i64) (.pair .bool (.pair (.int .i64) (.int .i64))))), (.sl (.pair (.sl (.pair (.int .i64) (.pair (.pair .bool (.pair .str .str)) (.pair .str (.pair .bool (.int .i64)))))) (.pair (.int .i64) (.pair .bool (.pair (.int .i64) (.int .i64))))))]), (29, [(.pair (.sl (.pair (.int .i64) (.pair (.pair .bool (.pair .str .str)) (.pair .str (.pair .bool (.int .i64)))))) (.pair (.int .i64) (.pair .bool (.pair (.int .i64) (.int .i64))))), (.pair (.sl (.pair (.int .i64) (.pair (.pair .bool (.pair .str .str)) (.pair .str (.pair .bool (.int .i64)))))) (.pair (.int .i64) (.pair .bool (.pair (.int .i64) (.int .i64))))), (.sl (.pair (.sl (.pair (.int .i64) (.pair (.pair .bool (.pair .str .str)) (.pair .str (.pair .bool (.int .i64)))))) (.pair (.int .i64) (.pair .bool (.pair (.int .i64) (.int .i64))))))]), (30, [(.pair (.sl (.pair (.int .i64) (.pair (.pair .bool (.pair .str .str)) (.pair .str (.pair .bool (.int .i64)))))) (.pair (.int .i64) (.pair .bool (.pair (.int .i64) (.int .i64))))), (.pair (.sl (.pair (.int .i64) (.pair (.pair .bool (.pair .str .str)) (.pair .str (.pair .bool (.int .i64)))))) (.pair (.int .i64) (.pair .bool (.pair (.int .i64) (.int .i64))))), (.sl (.pair (.sl (.pair (.int .i64) (.pair (.pair .bool (.pair .str .str)) (.pair .str (.pair .bool (.int .i64)))))) (.pair (.int .i64) (.pair .bool (.pair (.int .i64) (.int .i64))))))]), (31, [(.pair (.sl (.pair (.int .i64) (.pair (.pair .bool (.pair .str .str)) (.pair .str (.pair .bool (.int .i64)))))) (.pair (.int .i64) (.pair .bool (.pair (.int .i64) (.int .i64)))))]), (32, [(.sl (.pair (.sl (.pair (.int .i64) (.pair (.pair .bool (.pair .str .str)) (.pair .str (.pair .bool (.int .i64)))))) (.pair (.int .i64) (.pair .bool (.pair (.int .i64) (.int .i64))))))]), (33, [(.int .i64)]), (34, [(.pair (.sl (.pair (.int .i64) (.pair (.pair .bool (.pair .str .str)) (.pair .str (.pair .bool (.int .i64)))))) (.pair (.int .i64) (.pair .bool (.pair (.int .i64) (.int .i64)))))]), (35, [.str, (.pair (.int .i64) (.pair (.int .i64) (.int .i64))), (.sl (.pair (.sl (.pair (.int .i64) (.pair (.pair .bool (.pair .str .str)) (.pair .str (.pair .bool (.int .i64)))))) (.pair (.int .i64) (.pair .bool (.pair (.int .i64) (.int .i64))))))]), (36, [(.int .i64)]), (37, [(.pair .bool (.pair .str .str))]), (38, [(.pair (.int .i64) (.pair (.pair .bool (.pair .str .str)) (.pair .str (.pair .bool (.int .i64)))))]), (39, [(.pair (.int .i64) (.pair (.pair .bool (.pair .str .str)) (.pair .str (.pair .bool (.int .i64))))), (.pair (.int .i64) (.pair (.pair .bool (.pair .str .str)) (.pair .str (.pair .bool (.int .i64)))))]), (40, [(.int .i64), (.int .i64)]), (41, [(.pair .bool (.pair .str .str)), (.pair .bool (.pair .str .str))]), (42, [.str, .str]), (43, [.bool]), (44, [.str]), (45, [.str, .str]), (46, [.bool, .str]), (47, [.str, .str]), (48, [.str]), (49, [(.pair .bool .str)]), (50, [.str, .str]), (51, [(.pair .bool (.pair .str .str))]), (52, [(.int .i64)]), (56, [(.pair (.int .i64) (.pair (.pair .bool (.pair .str .str)) (.pair .str (.pair .bool (.int .i64)))))]), (57, [(.sl (.pair (.sl (.pair (.int .i64) (.pair (.pair .bool (.pair .str .str)) (.pair .str (.pair .bool (.int .i64)))))) (.pair (.int .i64) (.pair .bool (.pair (.int .i64) (.int .i64))))))]), (58, [(.pair (.sl (.pair (.int .i64) (.pair (.pair .bool (.pair .str .str)) (.pair .str (.pair .bool (.int .i64)))))) (.pair (.int .i64) (.pair .bool (.pair (.int .i64) (.int .i64))))), (.int .i64), (.int .i64)]), (59, [(.pair (.sl (.pair (.int .i64) (.pair (.pair .bool (.pair .str .str)) (.pair .str (.pair .bool (.int .i64)))))) (.pair (.int .i64) (.pair .bool (.pair (.int .i64) (.int .i64)))))]), (60, [(.pair (.int .i64) (.pair (.pair .bool (.pair .str .str)) (.pair .str (.pair .bool (.int .i64))))), (.sl (.pair (.int .i64) (.pair (.pair .bool (.pair .str .str)) (.pair .str (.pair .bool (.int .i64)))))), (.int .i64)]), (61, [(.pair (.sl (.pair (.int .i64) (.pair (.pair .bool (.pair .str .str)) (.pair .str (.pair .bool (.int .i64)))))) (.pair (.int .i64) (.pair .bool (.pair (.int .i64) (.int .i64)))))]), (62, [(.pair (.int .i64) (.pair (.pair .bool (.pair .str .str)) (.pair .str (.pair .bool (.int .i64)))))]), (64, [(.pair .bool (.pair .str .str))]), (65, [(.pair (.int .i64) (.pair (.pair .bool (.pair .str .str)) (.pair .str (.pair .bool (.int .i64)))))]), (66, [(.pair .bool (.pair .str .str))]), (67, [(.int .i64)]), (68, [(.int .u64)]), (69, [.bool]), (70, [(.pair .bool .str), (.pair .bool .str)]), (72, [.str, .str]), (75, []), (78, [.str]), (79, [.bool]), (80, [(.pair (.int .i64) (.pair (.pair .bool (.pair .str .str)) (.pair .str (.pair .bool (.int .i64))))), (.pair (.int .i64) (.pair (.pair .bool (.pair .str .str)) (.pair .str (.pair .bool (.int .i64)))))]), (81, [(.pair (.int .i64) (.pair (.pair .bool (.pair .str .str)) (.pair .str (.pair .bool (.int .i64)))))]), (82, [(.pair .bool (.pair .str .str))]), (83, [(.pair (.int .i64) (.pair (.pair .bool (.pair .str .str)) (.pair .str (.pair .bool (.int .i64)))))]), (84, [(.pair .bool (.pair .str .str))]), (85, [.str]), (87, [(.pair .bool (.pair .str .str))]), (88, [(.pair .bool .str)]), (89, [(.pair .bool (.pair .str .str))]), (90, [(.pair .bool (.pair .str .str))]), (91, [(.pair .bool (.pair .str .str))]), (92, [(.int .i64)]), (94, [.str, .str]), (96, [.str]), (98, [(.pair (.int .i64) (.pair (.pair .bool (.pair .str .str)) (.pair .str (.pair .bool (.int .i64))))), (.int .i64)]), (99, [(.int .i64), (.int .i64)]), (100, [(.pair .bool (.pair .str .str)), (.pair .bool (.pair .str .str))]), (101, [(.sl (.int .i64))]), (102, [.str, .str]), (103, [(.int .i64), (.int .i64)]), (104, [.bool]), (105, [.str]), (106, [.str, .str]), (107, [(.pair .bool .str)]), (108, [.bool, .str]), (109, [(.pair .bool (.pair .str .str))]), (110, [.str]), (111, [.str, .str]), (112, [(.pair .bool .str)]), (113, [.str]), (114, [.str]), (115, [.str, .str]), (116, [(.int .u64)]), (118, [(.int .i64)]), (119, [(.pair .bool .str), (.pair .bool .str)]), (120, [(.pair .bool (.pair .str .str)), (.pair .bool (.pair .str .str))]), (121, [.str]), (122, [(.int .i64)]), (123, [.str, .str]), (124, [.str, .str]), (125, [.str]), (126, [(.pair .bool (.pair .str .str))]), (128, [.str, .str]), (129, [.str]), (133, [(.pair .bool .str), (.pair .bool .str)]), (134, [.str, .str]), (138, [(.pair .bool (.pair .str .str))]), (139, [(.pair .bool .str), (.pair .bool .str)]), (140, [(.pair .bool (.pair .str .str))]), (142, [.str]), (143, [.str]), (144, [(.int .u64), (.int .i64)]), (154, [.str, .str]), (157, [.str, .str]), (159, [.str]), (160, [.str, .str]), (161, [.str, (.int .i64)])]
noncomputable def rtsL : List (Nat × List Ty) := [(3, [.bool]), (4, [.bool]), (5, [(.sl .str)]), (6, [(.sl .str)]), (7, [.bool]), (8, [.bool]), (9, [.bool]), (10, [(.pair .bool (.pair .str .str)), (.int .i64)]), (11, [(.pair (.int .i64) (.pair (.pair .bool (.pair .str .str)) (.pair .str (.pair .bool (.int .i64)))))]), (12, [(.pair .bool (.pair .str .str))]), (13, [(.pair (.sl (.pair (.int .i64) (.pair (.pair .bool (.pair .str .str)) (.pair .str (.pair .bool (.int .i64)))))) (.pair (.int .i64) (.pair .bool (.pair (.int .i64) (.int .i64)))))]), (14, [(.pair (.int .i64) (.pair (.pair .bool (.pair .str .str)) (.pair .str (.pair .bool (.int .i64)))))]), (15, [(.int .i64), (.int .i64)]), (16, [(.pair (.int .i64) (.pair (.pair .bool (.pair .str .str)) (.pair .str (.pair .bool (.int .i64)))))]), (17, [(.pair (.int .i64) (.pair (.pair .bool (.pair .str .str)) (.pair .str (.pair .bool (.int .i64)))))]), (18, [.bool]), (19, [.bool]), (20, [(.pair .bool (.pair .str .str)), (.int .i64)]), (21, [(.pair .bool .str)]), (22, [(.pair .bool .str)]), (23, [(.pair .bool .str)]), (24, [(.int .i64), (.int .i64), .bool]), (25, [(.pair (.int .i64) (.pair (.pair .bool (.pair .str .str)) (.pair .str (.pair .bool (.int .i64)))))]), (27, [.bool]), (28, [(.pair (.int .i64) (.pair (.pair .bool (.pair .str .str)) (.pair .str (.pair .bool (.int .i64)))))]), (29, [(.pair (.int .i64) (.pair (.pair .bool (.pair .str .str)) (.pair .str (.pair .bool (.int .i64)))))]), (30, [(.pair (.int .i64) (.pair (.pair .bool (.pair .str .str)) (.pair .str (.pair .bool (.int .i64)))))]), (31, [(.pair (.sl (.pair (.int .i64) (.pair (.pair .bool (.pair .str .str)) (.pair .str (.pair .bool (.int .i64)))))) (.pair (.int .i64) (.pair .bool (.pair (.int .i64) (.int .i64)))))]), (32, [(.pair (.int .i64) (.pair (.pair .bool (.pair .str .str)) (.pair .str (.pair .bool (.int .i64)))))]), (33, [(.pair (.int .i64) (.pair (.pair .bool (.pair .str .str)) (.pair .str (.pair .bool (.int .i64)))))]), (34, [(.int .i64)]), (35, [(.pair (.int .i64) (.pair (.pair .bool (.pair .str .str)) (.pair .str (.pair .bool (.int .i64)))))]), (36, [(.pair .bool .str)]), (37, [(.pair (.int .i64) (.pair (.pair .bool (.pair .str .str)) (.pair .str (.pair .bool (.int .i64)))))]), (38, [(.int .i64)]), (39, [(.pair (.int .i64) (.pair (.pair .bool (.pair .str .str)) (.pair .str (.pair .bool (.int .i64)))))]), (40, [(.int .i64)]), (41, [(.int .i64)]), (42, [(.int .i64)]), (43, [(.int .i64)]), (44, [.str]), (45, [.str]), (46, [(.pair .bool .str)]), (47, [.str]), (48, [(.int .i64)]), (49, [(.pair .bool .str)]), (50, [.str]), (51, [(.pair .bool (.pair .str .str))]), (52, [.str]), (56, [.bool]), (57, [(.own (.int .i64)), (.int .i64)]), (58, [(.pair (.int .i64) (.pair (.pair .bool (.pair .str .str)) (.pair .str (.pair .bool (.int .i64)))))]), (59, [(.pair (.int .i64) (.pair (.pair .bool (.pair .str .str)) (.pair .str (.pair .bool (.int .i64)))))]), (60, [(.int .i64)]), (61, [(.int .i64), (.int .i64)]), (62, [.bool, (.int .i64)]), (64, [(.int .i64), .bool]), (65, [(.pair (.int .i64) (.pair (.pair .bool (.pair .str .str)) (.pair .str (.pair .bool (.int .i64)))))]), (66, [(.pair (.int .i64) (.pair (.pair .bool (.pair .str .str)) (.pair .str (.pair .bool (.int .i64)))))]), (67, [(.pair .bool (.pair .str .str))]), (68, [.str]), (69, [(.pair (.int .i64) (.pair (.pair .bool (.pair .str .str)) (.pair .str (.pair .bool (.int .i64)))))]), (70, [(.int .i64)]), (72, [.str, .str, (.int .i64)]), (75, [(.pair .bool (.pair .str .str))]), (78, [(.pair (.int .i64) (.pair (.pair .bool (.pair .str .str)) (.pair .str (.pair .bool (.int .i64)))))]), (79, [(.pair (.int .i64) (.pair (.pair .bool (.pair .str .str)) (.pair .str (.pair .bool (.int .i64)))))]), (80, [(.int .i64), (.int .i64)]), (81, [(.pair .bool (.pair .str .str)), (.int .i64)]), (82, [(.pair .bool (.pair .str .str))]), (83, [(.int .i64)]), (84, [(.int .i64)]), (85, [(.pair (.int .i64) (.pair (.pair .bool (.pair .str .str)) (.pair .str (.pair .bool (.int .i64))))), (.int .i64)]), (87, [.bool]), (88, [(.int .i64), .bool]), (89, [(.pair .bool .str)]), (90, [(.pair .bool (.pair .str .str))]), (91, [.bool]), (92, [(.pair .bool .str)]), (94, [(.int .i64)]), (96, [.bool]), (98, [(.pair (.int .i64) (.pair (.pair .bool (.pair .str .str)) (.pair .str (.pair .bool (.int .i64)))))]), (99, [(.int .i64)]), (100, [(.int .i64)]), (101, [(.int .i64)]), (102, [(.int .i64)]), (103, [(.int .i64)]), (104, [(.int .i64)]), (105, [(.pair .bool (.pair .str .str)), (.int .i64)]), (106, [.str, .str, (.int .i64)]), (107, [(.pair .bool (.pair .str .str)), (.int .i64)]), (108, [(.pair .bool .str)]), (109, [(.pair .bool (.pair .str .str))]), (110, [(.int .i64), .bool]), (111, [.str, .bool]), (112, [(.pair .bool .str)]), (113, [(.int .u64), .bool]), (114, [.bool]), (115, [.str]), (116, [.str]), (118, [.bool]), (119, [(.int .i64)]), (120, [(.pair .bool .str), (.pair .bool .str)]), (121, [.bool]), (122, [.bool]), (123, [.str, .str, .bool]), (124, [(.pair .bool (.pair .str .str)), (.int .i64)]), (125, [(.pair .bool (.pair .str .str)), (.int .i64)]), (126, [(.pair .bool (.pair .str .str))]), (128, [(.int .i64)]), (129, [.str]), (133, [(.pair .bool (.pair .str .str)), (.int .i64)]), (134, [.str, .bool]), (138, [(.pair .bool .str)]), (139, [(.pair .bool .str)]), (140, [(.pair .bool .str)]), (142, [.str, (.int .i64)]), (143, [.bool]), (144, [.str]), (154, [.bool]), (157, [.str]), (159, [.bool]), (160, [.str]), (161, [.str, (.int .i64)])]
noncomputable def annL : List (Nat × List (Nat × Path × Ann)) := [
  (3, [(3, [1, 0, 1, 1, 1], { live := [(0, .keep), (3, .im (.sl .str)), (4, .im (.sl .str)), (21, .keep)], toks := [] })]),
  (4, [(4, [1, 0, 1, 1], { live := [(1, .im (.sl (.pair (.int .i64) (.pair (.pair .bool (.pair .str .str)) (.pair .str (.pair .bool (.int .i64))))))), (2, .keep), (3, .keep), (7, .keep), (25, .keep)], toks := [(48, [.keep, .keep, .keep, .keep, .keep, .keep, .keep]), (112, [.im (.sl (.pair (.int .i64) (.pair (.pair .bool (.pair .str .str)) (.pair .str (.pair .bool (.int .i64)))))), .keep, .keep, .keep, .keep])] }),
    (4, [1, 1, 1, 1, 1, 1], { live := [(3, .keep), (7, .keep), (8, .keep)], toks := [(48, [.keep, .keep, .keep, .keep, .keep, .keep, .keep]), (112, [.im (.sl (.pair (.int .i64) (.pair (.pair .bool (.pair .str .str)) (.pair .str (.pair .bool (.int .i64)))))), .keep, .keep, .keep, .keep]), (128, [.keep, .keep, .keep])] })]),
  (8, [(8, [1, 0, 1, 1], { live := [(1, .keep), (3, .keep), (39, .keep)], toks := [(16, [.im (.sl (.pair (.int .i64) (.pair (.pair .bool (.pair .str .str)) (.pair .str (.pair .bool (.int .i64)))))), .keep, .keep, .keep, .keep])] }),
    (8, [0, 1, 0, 1, 1, 1], { live := [(1, .keep), (3, .keep), (4, .keep)], toks := [(16, [.im (.sl (.pair (.int .i64) (.pair (.pair .bool (.pair .str .str)) (.pair .str (.pair .bool (.int .i64)))))), .keep, .keep, .keep, .keep])] })]),
  (11, [(11, [1, 1, 1, 0, 0, 1, 1], { live := [(0, .keep), (2, .im (.sl (.pair (.sl (.pair (.int .i64) (.pair (.pair .bool (.pair .str .str)) (.pair .str (.pair .bool (.int .i64)))))) (.pair (.int .i64) (.pair .bool (.pair (.int .i64) (.int .i64))))))), (4, .keep), (6, .keep), (20, .keep)], toks := [(64, [.keep, .keep, .keep]), (96, [.keep, .keep, .keep, .keep, .keep, .keep, .keep])] }),
    (11, [1000012, 0, 1, 1, 0, 0, 1, 1], { live := [(0, .keep), (2, .keep), (4, .keep), (6, .keep), (31, .keep)], toks := [] }),
    (26, [1000002, 0, 1], { live := [], toks := [] }),
    (53, [0, 1, 0, 1], { live := [(0, .im (.sl (.pair (.sl (.pair (.int .i64) (.pair (.pair .bool (.pair .str .str)) (.pair .str (.pair .bool (.int .i64)))))) (.pair (.int .i64) (.pair .bool (.pair (.int .i64) (.int .i64))))))), (1, .keep), (7, .keep), (8, .keep)], toks := [(64, [.keep, .keep, .keep]), (96, [.keep, .keep, .keep, .keep, .keep, .keep, .keep])] })]),
  (17, [(17, [1, 0, 1], { live := [(0, .keep), (2, .keep), (8, .keep)], toks := [(32, [.keep, .keep, .keep, .keep, .keep, .keep, .keep])] }),
    (17, [1, 1], { live := [(0, .keep), (2, .keep)], toks := [(32, [.keep, .keep, .keep, .keep, .keep, .keep, .keep])] })]),
  (18, [(18, [1, 0, 1], { live := [(1, .keep), (33, .keep)], toks := [(16, [.keep, .keep, .keep])] })]),
  (19, [(19, [0, 1, 0, 1, 1], { live := [(0, .keep), (3, .keep)], toks := [] }),
    (19, [1, 0, 0, 1, 0, 0, 1, 0, 1, 1], { live := [(0, .keep), (3, .keep), (22, .keep)], toks := [] })]),
  (20, [(20, [1, 0, 1, 1, 1, 1, 1, 1, 1], { live := [(4, .keep), (6, .keep), (7, .keep), (9, .keep), (10, .keep), (45, .keep)], toks := [(64, [.keep, .keep, .keep]), (96, [.keep, .keep]), (112, [.keep, .keep])] })]),
  (24, [(24, [1, 0, 1, 0, 1], { live := [(5, .keep), (6, .keep)], toks := [] }),
    (24, [1, 1, 1, 0, 1, 0, 1], { live := [(5, .keep), (10, .keep)], toks := [] }),
    (24, [1, 1, 1, 1, 1, 0, 1, 0, 1], { live := [(5, .keep), (13, .keep)], toks := [] }),
    (24, [1, 1, 1, 1, 1, 1, 1, 0, 1, 0, 1], { live := [(16, .keep)], toks := [] })]),
  (25, [(25, [1, 1], { live := [(0, .keep), (2, .keep)], toks := [(32, [.keep, .keep, .keep, .keep, .keep, .keep, .keep])] })]),
  (27, [(27, [1, 0, 1, 1], { live := [(1, .keep), (33, .keep)], toks := [(16, [.im (.sl (.pair (.int .i64) (.pair (.pair .bool (.pair .str .str)) (.pair .str (.pair .bool (.int .i64)))))), .keep, .keep, .keep, .keep])] }),
    (27, [1000002, 0, 1, 1, 1], { live := [], toks := [] }),
    (54, [1000002, 0, 1], { live := [], toks := [] }),
    (77, [0, 1, 0, 1], { live := [(0, .im (.sl (.pair (.int .i64) (.pair (.pair .bool (.pair .str .str)) (.pair .str (.pair .bool (.int .i64))))))), (1, .keep), (7, .keep), (8, .keep)], toks := [] }),
    (77, [1000005, 0, 1, 0, 0, 1, 1, 0, 0, 1, 0, 1], { live := [(0, .keep), (1, .keep), (5, .keep), (7, .keep), (8, .keep)], toks := [] })]),
  (29, [(29, [1, 1, 1, 0, 0, 1, 1, 1, 1], { live := [(4, .keep), (6, .keep), (7, .keep), (8, .own 1099511627776 (.int .i64)), (27, .keep)], toks := [(64, [.im (.sl (.pair (.int .i64) (.pair (.pair .bool (.pair .str .str)) (.pair .str (.pair .bool (.int .i64)))))), .keep, .keep, .keep, .keep]), (96, [.keep, .keep, .keep, .keep, .keep, .keep, .keep]), (112, [.keep, .keep, .keep, .keep, .keep, .keep, .keep])] })]),
  (30, [(30, [1, 1, 1, 0, 0, 1, 1, 1, 1, 1, 1], { live := [(4, .keep), (6, .keep), (7, .keep), (8, .keep), (10, .keep), (48, .keep)], toks := [(64, [.im (.sl (.pair (.int .i64) (.pair (.pair .bool (.pair .str .str)) (.pair .str (.pair .bool (.int .i64)))))), .keep, .keep, .keep, .keep]), (96, [.keep, .keep, .keep, .keep, .keep, .keep, .keep]), (112, [.keep, .keep, .keep, .keep, .keep, .keep, .keep])] }),
    (30, [1, 1, 1, 1, 1, 1], { live := [(4, .keep), (6, .keep), (7, .keep), (8, .keep), (9, .keep), (10, .keep)], toks := [(64, [.im (.sl (.pair (.int .i64) (.pair (.pair .bool (.pair .str .str)) (.pair .str (.pair .bool (.int .i64)))))), .keep, .keep, .keep, .keep]), (96, [.keep, .keep, .keep, .keep, .keep, .keep, .keep]), (112, [.keep, .keep, .keep, .keep, .keep, .keep, .keep])] }),
    (30, [1, 0, 1, 1, 1, 1, 1], { live := [(2, .im (.sl (.pair (.sl (.pair (.int .i64) (.pair (.pair .bool (.pair .str .str)) (.pair .str (.pair .bool (.int .i64)))))) (.pair (.int .i64) (.pair .bool (.pair (.int .i64) (.int .i64))))))), (4, .keep), (6, .keep), (7, .keep), (8, .keep), (9, .keep), (10, .keep), (34, .keep)], toks := [(64, [.im (.sl (.pair (.int .i64) (.pair (.pair .bool (.pair .str .str)) (.pair .str (.pair .bool (.int .i64)))))), .keep, .keep, .keep, .keep]), (96, [.keep, .keep, .keep, .keep, .keep, .keep, .keep]), (112, [.keep, .keep, .keep, .keep, .keep, .keep, .keep])] }),
    (30, [1000004, 0, 0, 1, 1, 1, 1, 1, 1, 1, 1, 1, 1], { live := [(4, .keep), (6, .keep), (7, .keep), (8, .keep), (11, .keep), (12, .keep)], toks := [] }),
    (30, [1, 1, 1, 1, 1, 1, 1, 1, 1], { live := [(4, .keep), (6, .keep), (7, .keep), (8, .keep), (11, .keep)], toks := [(64, [.im (.sl (.pair (.int .i64) (.pair (.pair .bool (.pair .str .str)) (.pair .str (.pair .bool (.int .i64)))))), .keep, .keep, .keep, .keep]), (96, [.keep, .keep, .keep, .keep, .keep, .keep, .keep]), (112, [.keep, .keep, .keep, .keep, .keep, .keep, .keep])] }),
    (30, [1000000, 0, 1, 0, 1, 1, 1, 1, 1, 1, 1, 1, 1, 1], { live := [(4, .keep), (6, .keep), (7, .keep), (8, .keep), (11, .keep), (12, .keep)], toks := [] }),
    (86, [0, 1], { live := [(0, .keep), (1, .keep), (2, .keep), (4, .keep)], toks := [(4194336, [.im (.sl (.pair (.int .i64) (.pair (.pair .bool (.pair .str .str)) (.pair .str (.pair .bool (.int .i64))))))]), (4194352, [.keep]), (64, [.im (.sl (.pair (.int .i64) (.pair (.pair .bool (.pair .str .str)) (.pair .str (.pair .bool (.int .i64)))))), .keep, .keep, .keep, .keep]), (96, [.keep, .keep, .keep, .keep, .keep, .keep, .keep]), (112, [.keep, .keep, .keep, .keep, .keep, .keep, .keep]), (192, [.own 1099511627777 (.pair (.int .i64) (.pair (.pair .bool (.pair .str .str)) (.pair .str (.pair .bool (.int .i64)))))])] }),
    (86, [1000010, 0, 1, 0, 0, 1, 0, 0, 1], { live := [(0, .keep), (1, .keep), (2, .keep), (4, .keep)], toks := [] })]),
  (31, [(31, [0, 1, 0, 1, 1], { live := [(1, .keep), (2, .keep), (3, .keep), (12, .keep), (13, .keep)], toks := [(16, [.im (.sl (.pair (.int .i64) (.pair (.pair .bool (.pair .str .str)) (.pair .str (.pair .bool (.int .i64)))))), .keep, .keep, .keep, .keep]), (32, [.im (.sl (.pair (.int .i64) (.pair (.pair .bool (.pair .str .str)) (.pair .str (.pair .bool (.int .i64)))))), .keep, .keep, .keep, .keep]), (48, [.own 1099511627778 (.pair (.int .i64) (.pair (.pair .bool (.pair .str .str)) (.pair .str (.pair .bool (.int .i64))))), .keep, .keep, .keep, .keep])] }),
    (31, [0, 1, 1, 0, 0, 1, 1, 0, 0, 1, 0, 1, 1], { live := [(1, .keep), (2, .keep), (3, .keep), (4, .keep), (12, .keep), (13, .keep), (17, .keep), (18, .keep)], toks := [(16, [.im (.sl (.pair (.int .i64) (.pair (.pair .bool (.pair .str .str)) (.pair .str (.pair .bool (.int .i64)))))), .keep, .keep, .keep, .keep]), (32, [.im (.sl (.pair (.int .i64) (.pair (.pair .bool (.pair .str .str)) (.pair .str (.pair .bool (.int .i64)))))), .keep, .keep, .keep, .keep]), (48, [.own 1099511627779 (.pair (.int .i64) (.pair (.pair .bool (.pair .str .str)) (.pair .str (.pair .bool (.int .i64))))), .keep, .keep, .keep, .keep])] })]),
  (35, [(35, [1, 1], { live := [(0, .keep), (4, .keep), (6, .keep)], toks := [(64, [.keep, .keep, .keep]), (96, [.keep, .keep, .keep, .keep, .keep, .keep, .keep])] })]),
  (42, [(42, [0, 1, 0, 1], { live := [(0, .keep), (1, .keep), (5, .keep)], toks := [] }),
    (42, [1, 0, 0, 0, 1, 0, 1], { live := [(0, .keep), (1, .keep), (5, .keep), (15, .keep)], toks := [] })]),
  (52, [(52, [1000000, 0, 1], { live := [(0, .keep)], toks := [] }),
    (52, [1, 0, 1, 1], { live := [(0, .keep), (3, .keep), (10, .keep)], toks := [(48, [.keep, .keep, .keep, .keep, .keep, .keep, .keep, .keep])] })]),
  (57, [(57, [0, 1, 0, 1, 1], { live := [(4, .own 1099511627780 (.int .i64)), (9, .im (.sl (.pair (.sl (.pair (.int .i64) (.pair (.pair .bool (.pair .str .str)) (.pair .str (.pair .bool (.int .i64)))))) (.pair (.int .i64) (.pair .bool (.pair (.int .i64) (.int .i64))))))), (10, .keep), (11, .keep)], toks := [] })]),
  (58, [(58, [1, 0, 1], { live := [(1, .keep), (2, .keep), (3, .keep), (6, .keep), (24, .keep)], toks := [(48, [.im (.sl (.pair (.int .i64) (.pair (.pair .bool (.pair .str .str)) (.pair .str (.pair .bool (.int .i64)))))), .keep, .keep, .keep, .keep]), (96, [.keep, .keep, .keep, .keep, .keep, .keep, .keep])] })]),
  (60, [(60, [0, 1, 0, 1, 1, 1, 0, 1], { live := [(2, .keep), (3, .keep), (7, .keep), (14, .im (.sl (.pair (.int .i64) (.pair (.pair .bool (.pair .str .str)) (.pair .str (.pair .bool (.int .i64))))))), (15, .keep), (16, .keep)], toks := [(48, [.keep, .keep, .keep, .keep, .keep, .keep, .keep])] }),
    (60, [1, 1, 1, 0, 0, 1, 0, 1, 1, 1, 0, 1], { live := [(2, .keep), (3, .keep), (7, .keep), (14, .im (.sl (.pair (.int .i64) (.pair (.pair .bool (.pair .str .str)) (.pair .str (.pair .bool (.int .i64))))))), (15, .keep), (16, .keep)], toks := [(48, [.keep, .keep, .keep, .keep, .keep, .keep, .keep])] }),
    (60, [1, 1, 1, 1, 1, 0, 1, 1, 1, 0, 0, 1, 1, 0, 0, 1, 0, 1, 1, 1, 0, 1], { live := [(2, .keep), (3, .keep), (7, .keep), (8, .keep), (14, .im (.sl (.pair (.int .i64) (.pair (.pair .bool (.pair .str .str)) (.pair .str (.pair .bool (.int .i64))))))), (15, .keep), (16, .keep), (46, .keep)], toks := [(48, [.keep, .keep, .keep, .keep, .keep, .keep, .keep])] }),
    (60, [1, 0, 1, 1, 1, 0, 0, 1, 1, 0, 0, 1, 0, 1, 1, 1, 0, 1], { live := [(2, .keep), (3, .keep), (7, .keep), (8, .keep), (10, .keep), (14, .im (.sl (.pair (.int .i64) (.pair (.pair .bool (.pair .str .str)) (.pair .str (.pair .bool (.int .i64))))))), (15, .keep), (16, .keep), (34, .keep)], toks := [(48, [.keep, .keep, .keep, .keep, .keep, .keep, .keep])] })]),
  (61, [(61, [1, 0, 1, 1, 1, 1], { live := [(6, .keep), (32, .keep)], toks := [] })]),
  (62, [(62, [1, 1, 0, 0, 1, 1, 1, 0, 1, 0, 1, 1], { live := [(1, .keep), (34, .keep)], toks := [(16, [.keep, .keep, .keep, .keep, .keep, .keep, .keep])] })]),
  (66, [(66, [1, 1], { live := [(1, .keep), (2, .keep)], toks := [(16, [.keep, .keep, .keep]), (32, [.keep, .keep, .keep, .keep, .keep, .keep, .keep])] })]),
  (80, [(80, [1000004, 0, 0, 1], { live := [(2, .keep), (3, .keep)], toks := [] }),
    (80, [1, 0, 1], { live := [(2, .keep), (3, .keep), (6, .keep)], toks := [(32, [.keep, .keep, .keep, .keep, .keep, .keep, .keep]), (48, [.keep, .keep, .keep, .keep, .keep, .keep, .keep])] })]),
  (85, [(85, [1, 1, 1, 0, 1, 0, 1, 1], { live := [(0, .keep), (2, .keep), (16, .keep)], toks := [(32, [.keep, .keep, .keep, .keep, .keep, .keep, .keep])] })]),
  (88, [(88, [1, 0, 1, 1, 1, 1], { live := [(4, .keep), (26, .keep)], toks := [] }),
    (88, [1, 1, 1, 1], { live := [(1, .keep), (4, .keep), (5, .keep)], toks := [(16, [.keep, .keep])] })]),
  (91, [(91, [1, 0, 0, 1], { live := [(1, .keep), (3, .keep)], toks := [(16, [.keep, .keep, .keep])] })]),
  (96, [(96, [0, 1, 0, 1], { live := [(0, .keep), (6, .im (.sl (.int .u8))), (7, .keep), (8, .keep)], toks := [] }),
    (96, [1, 1, 0, 0, 1, 1, 0, 0, 1, 0, 1], { live := [(0, .keep), (6, .im (.sl (.int .u8))), (7, .keep), (8, .keep), (17, .keep)], toks := [] })]),
  (101, [(101, [0, 1, 0, 1, 1], { live := [(3, .keep), (6, .im (.sl (.int .i64))), (7, .keep), (8, .keep)], toks := [] })]),
  (105, [(105, [1, 1, 1, 1, 1, 1, 1], { live := [(2, .keep), (8, .keep), (9, .keep)], toks := [(32, [.keep, .keep, .keep]), (128, [.keep, .keep, .keep])] }),
    (105, [1, 0, 1, 1, 1, 1, 1, 1], { live := [(2, .keep), (8, .keep), (9, .keep), (37, .keep)], toks := [(32, [.keep, .keep, .keep]), (128, [.keep, .keep, .keep])] }),
    (105, [1, 1, 1, 1, 1, 1], { live := [(2, .keep), (4, .keep), (8, .keep), (9, .keep)], toks := [(32, [.keep, .keep, .keep]), (128, [.keep, .keep, .keep])] })]),
  (110, [(110, [1000000, 0, 0, 1], { live := [(0, .keep)], toks := [] }),
    (110, [0, 1, 0, 1], { live := [(0, .keep), (6, .keep), (7, .keep)], toks := [] }),
    (110, [1, 1, 0, 0, 1, 1, 0, 0, 1, 0, 1], { live := [(0, .keep), (4, .keep), (6, .keep), (7, .keep), (17, .keep)], toks := [] })]),
  (119, [(119, [1, 0, 0, 1, 1, 1], { live := [(2, .keep), (3, .keep), (5, .keep), (15, .keep)], toks := [(32, [.keep, .keep]), (48, [.keep, .keep])] })]),
  (124, [(124, [1, 0, 0, 0, 0, 0, 0, 0, 0, 0, 0, 1, 1, 1], { live := [(4, .keep), (6, .keep), (7, .keep), (8, .keep), (9, .keep), (20, .keep)], toks := [(64, [.keep, .keep, .keep])] }),
    (124, [1, 0, 0, 1, 1, 1], { live := [(4, .keep), (6, .keep), (7, .keep), (8, .keep)], toks := [(64, [.keep, .keep, .keep])] })]),
  (125, [(125, [1, 0, 0, 1, 1], { live := [(0, .keep), (2, .keep), (4, .keep), (5, .keep), (15, .keep)], toks := [(32, [.keep, .keep, .keep])] })]),
  (126, [(126, [1, 1, 1], { live := [(1, .keep), (2, .keep)], toks := [(16, [.keep, .keep, .keep]), (32, [.keep, .keep, .keep])] })]),
  (133, [(133, [1, 0, 1, 1, 1, 1], { live := [(2, .keep), (3, .keep), (4, .keep), (6, .keep), (7, .keep), (44, .keep)], toks := [(32, [.keep, .keep]), (48, [.keep, .keep]), (64, [.keep, .keep, .keep])] }),
    (133, [1, 1, 1, 1], { live := [(2, .keep), (3, .keep), (4, .keep), (6, .keep), (7, .keep)], toks := [(32, [.keep, .keep]), (48, [.keep, .keep]), (64, [.keep, .keep, .keep])] })]),
  (142, [(142, [1, 0, 0, 1], { live := [(0, .keep), (10, .keep)], toks := [] }),
    (142, [0, 0, 1, 1, 1], { live := [(0, .keep), (4, .keep)], toks := [] }),
    (142, [0, 1, 0, 1, 1, 0, 1, 0, 0, 0, 1, 1, 1], { live := [(0, .keep), (4, .keep), (5, .keep), (6, .keep), (7, .keep), (30, .im (.sl (.int .u8))), (31, .keep), (32, .keep)], toks := [] })]),
  (143, [(143, [0, 1, 0, 1], { live := [(0, .keep), (6, .im (.sl (.int .u8))), (7, .keep), (8, .keep)], toks := [] }),
    (143, [1, 1, 0, 0, 1, 1, 0, 0, 1, 0, 1], { live := [(0, .keep), (6, .im (.sl (.int .u8))), (7, .keep), (8, .keep), (17, .keep)], toks := [] })]),
  (159, [(159, [0, 1, 0, 1], { live := [(6, .im (.sl (.int .u8))), (7, .keep), (8, .keep)], toks := [] }),
    (159, [1, 1, 0, 0, 1, 1, 0, 0, 1, 0, 1], { live := [(6, .im (.sl (.int .u8))), (7, .keep), (8, .keep), (17, .keep)], toks := [] })])]
noncomputable def extL : List ((j : Nat) × (den (tyL ((look ptsL j).getD [])) → Option (den (tyL ((look rtsL j).getD []))))) := [⟨44, Q.trimQ⟩, ⟨45, Q.gcdQ⟩, ⟨48, Q.bitsQ⟩, ⟨50, Q.mulQ⟩, ⟨68, Q.ofQ⟩, ⟨72, Q.divQ⟩, ⟨94, Q.cmpQ⟩, ⟨106, Q.divQ⟩, ⟨113, Q.smallQ⟩, ⟨115, Q.gcdQ⟩, ⟨116, Q.ofQ⟩, ⟨123, cutF⟩, ⟨128, Q.cmpQ⟩, ⟨129, Q.trimQ⟩, ⟨157, Q.mulQ⟩, ⟨160, Q.addQ⟩, ⟨161, Q.powQ⟩]
noncomputable def CT : Ctx where
  ti := look tis
  fn := look fns
  disp := fun _ f _ => match inls.elem f with
    | true => .inl
    | false => .spec f
  fid := fun i => i
  pts := fun i => (look ptsL i).getD []
  rts := fun i => (look rtsL i).getD []
  ext := lookE extL
  ann := fun i f p => match look annL i with
    | some l => lookP l f p
    | none => none
  inv := Inv
noncomputable abbrev abacistlaw22_FlookNames (x0 : Int) : Option (Bool) := (top CT).callF 3 (x0)
noncomputable abbrev abacistlaw22_FlookNames_1 (a1 : Int) (a2 : List (List UInt8)) (a3 : List (List UInt8)) (a4 : Bool) : Option (Bool) := (top CT).stage 3 [] 3 [1, 0, 1, 1, 1] { env := [(0, (.int .i64 a1)), (3, (.sl .str a2 false)), (4, (.sl .str a3 false)), (21, (.bool a4))], heap := [], salt := 0 }
noncomputable abbrev flook_Names : Option (List (List UInt8)) := (top CT).callF 5 ()
noncomputable abbrev abacistref22_Names : Option (List (List UInt8)) := (top CT).callF 6 ()
noncomputable abbrev abacistlaw22_known : Option (Bool) := (top CT).callF 7 ()
noncomputable abbrev abacistref01_Trim (x0 : List UInt8) : Option (List UInt8) := (top CT).callF 44 (x0)
noncomputable abbrev abacistref02_Gcd (x0 : List UInt8) (x1 : List UInt8) : Option (List UInt8) := (top CT).callF 45 (x0, x1)
noncomputable abbrev abacistref01_Bits (x0 : List UInt8) : Option (Int) := (top CT).callF 48 (x0)
noncomputable abbrev abacistref01_Mul (x0 : List UInt8) (x1 : List UInt8) : Option (List UInt8) := (top CT).callF 50 (x0, x1)
noncomputable abbrev abacistref01_Of (x0 : Int) : Option (List UInt8) := (top CT).callF 68 (x0)
noncomputable abbrev abacistref02_DivMod (x0 : List UInt8) (x1 : List UInt8) : Option (List UInt8 × List UInt8 × Int) := (top CT).callF 72 (x0, x1)
noncomputable abbrev abacistref01_Cmp (x0 : List UInt8) (x1 : List UInt8) : Option (Int) := (top CT).callF 94 (x0, x1)
noncomputable abbrev divide_DivMod (x0 : List UInt8) (x1 : List UInt8) : Option (List UInt8 × List UInt8 × Int) := (top CT).callF 106 (x0, x1)
noncomputable abbrev nat_Small (x0 : List UInt8) : Option (Int × Bool) := (top CT).callF 113 (x0)
noncomputable abbrev divide_Gcd (x0 : List UInt8) (x1 : List UInt8) : Option (List UInt8) := (top CT).callF 115 (x0, x1)
noncomputable abbrev nat_Of (x0 : Int) : Option (List UInt8) := (top CT).callF 116 (x0)
noncomputable abbrev strings_Cut (x0 : List UInt8) (x1 : List UInt8) : Option (List UInt8 × List UInt8 × Bool) := (top CT).callF 123 (x0, x1)
noncomputable abbrev nat_Cmp (x0 : List UInt8) (x1 : List UInt8) : Option (Int) := (top CT).callF 128 (x0, x1)
noncomputable abbrev nat_Trim (x0 : List UInt8) : Option (List UInt8) := (top CT).callF 129 (x0)
noncomputable abbrev nat_Mul (x0 : List UInt8) (x1 : List UInt8) : Option (List UInt8) := (top CT).callF 157 (x0, x1)
noncomputable abbrev nat_Add (x0 : List UInt8) (x1 : List UInt8) : Option (List UInt8) := (top CT).callF 160 (x0, x1)
noncomputable abbrev divide_Pow (x0 : List UInt8) (x1 : Int) : Option (List UInt8 × Int) := (top CT).callF 161 (x0, x1)
end Go.Proofs.YtdobmpkdgkifpaaGreatDoor.K

/- The tables are the program's own. -/
set_option linter.unusedVariables false
set_option maxRecDepth 100000
namespace Go.Proofs.YtdobmpkdgkifpaaGreatDoor.K
open Go
theorem look_all {α : Type} {Q : Nat → α → Prop} : ∀ {l : List (Nat × α)}, (∀ p ∈ l, Q p.1 p.2) → ∀ t v, look l t = some v → Q t v
  | [], _, t, v, h => by cases h
  | (u, x) :: l, hl, t, v, h => by
    simp only [look] at h
    split at h
    · rename_i hb
      have := Nat.eq_of_beq_eq_true hb
      subst this
      cases h
      exact hl _ (List.mem_cons_self ..)
    · exact look_all (fun p hp => hl p (List.mem_cons_of_mem _ hp)) t v h
theorem all_nil {α : Type} {Q : Nat → α → Prop} : ∀ p ∈ ([] : List (Nat × α)), Q p.1 p.2 := fun p h => by cases h
theorem all_cons {α : Type} {Q : Nat → α → Prop} {u : Nat} {x : α} {l : List (Nat × α)} (h : Q u x) (hl : ∀ p ∈ l, Q p.1 p.2) : ∀ p ∈ (u, x) :: l, Q p.1 p.2 := fun p hp => by
  rcases List.mem_cons.1 hp with rfl | hp
  · exact h
  · exact hl p hp
theorem tiok2 : TIok Tryz.prog 2 ti2 := ⟨by kernel_rfl, by kernel_rfl, by kernel_rfl, by kernel_rfl, by kernel_rfl, by kernel_rfl, by kernel_rfl, by kernel_rfl, ⟨by kernel_rfl, by kernel_rfl, by kernel_rfl⟩, fun h => by cases h⟩
theorem tiok3 : TIok Tryz.prog 3 ti3 := ⟨by kernel_rfl, by kernel_rfl, by kernel_rfl, by kernel_rfl, by kernel_rfl, by kernel_rfl, by kernel_rfl, by kernel_rfl, ⟨by kernel_rfl, by kernel_rfl, by kernel_rfl⟩, fun h => by cases h⟩
theorem tiok4 : TIok Tryz.prog 4 ti4 := ⟨by kernel_rfl, by kernel_rfl, by kernel_rfl, by kernel_rfl, by kernel_rfl, by kernel_rfl, by kernel_rfl, by kernel_rfl, ⟨by kernel_rfl, by kernel_rfl, by kernel_rfl⟩, fun h => by cases h⟩
theorem tiok5 : TIok Tryz.prog 5 ti5 := ⟨by kernel_rfl, by kernel_rfl, by kernel_rfl, by kernel_rfl, by kernel_rfl, by kernel_rfl, by kernel_rfl, by kernel_rfl, ⟨by kernel_rfl, by kernel_rfl, by kernel_rfl⟩, fun h => by cases h⟩
theorem tiok9 : TIok Tryz.prog 9 ti9 := ⟨by kernel_rfl, by kernel_rfl, by kernel_rfl, by kernel_rfl, by kernel_rfl, by kernel_rfl, by kernel_rfl, by kernel_rfl, ⟨by kernel_rfl, by kernel_rfl, by kernel_rfl⟩, fun h => by cases h⟩
theorem tiok22 : TIok Tryz.prog 22 ti22 := ⟨by kernel_rfl, by kernel_rfl, by kernel_rfl, by kernel_rfl, by kernel_rfl, by kernel_rfl, by kernel_rfl, by kernel_rfl, ⟨by kernel_rfl, by kernel_rfl, by kernel_rfl⟩, fun h => by cases h⟩
theorem tiok27 : TIok Tryz.prog 27 ti27 := ⟨by kernel_rfl, by kernel_rfl, by kernel_rfl, by kernel_rfl, by kernel_rfl, by kernel_rfl, by kernel_rfl, by kernel_rfl, ⟨by kernel_rfl, by kernel_rfl, by kernel_rfl⟩, fun _ => eq_fits (by kernel_rfl) (by kernel_rfl)⟩
theorem tiok29 : TIok Tryz.prog 29 ti29 := ⟨by kernel_rfl, by kernel_rfl, by kernel_rfl, by kernel_rfl, by kernel_rfl, by kernel_rfl, by kernel_rfl, by kernel_rfl, ⟨by kernel_rfl, by kernel_rfl, by kernel_rfl⟩, fun _ => eq_fits (by kernel_rfl) (by kernel_rfl)⟩
theorem tiok30 : TIok Tryz.prog 30 ti30 := ⟨by kernel_rfl, by kernel_rfl, by kernel_rfl, by kernel_rfl, by kernel_rfl, by kernel_rfl, by kernel_rfl, by kernel_rfl, ⟨by kernel_rfl, by kernel_rfl, by kernel_rfl⟩, fun h => by cases h⟩
theorem tiok32 : TIok Tryz.prog 32 ti32 := ⟨by kernel_rfl, by kernel_rfl, by kernel_rfl, by kernel_rfl, by kernel_rfl, by kernel_rfl, by kernel_rfl, by kernel_rfl, ⟨by kernel_rfl, by kernel_rfl, by kernel_rfl⟩, fun h => by cases h⟩
theorem tiok36 : TIok Tryz.prog 36 ti36 := ⟨by kernel_rfl, by kernel_rfl, by kernel_rfl, by kernel_rfl, by kernel_rfl, by kernel_rfl, by kernel_rfl, by kernel_rfl, ⟨by kernel_rfl, by kernel_rfl, by kernel_rfl⟩, fun h => by cases h⟩
theorem tiok53 : TIok Tryz.prog 53 ti53 := ⟨by kernel_rfl, by kernel_rfl, by kernel_rfl, by kernel_rfl, by kernel_rfl, by kernel_rfl, by kernel_rfl, by kernel_rfl, ⟨by kernel_rfl, by kernel_rfl, by kernel_rfl⟩, fun _ => eq_fits (by kernel_rfl) (by kernel_rfl)⟩
theorem tiok56 : TIok Tryz.prog 56 ti56 := ⟨by kernel_rfl, by kernel_rfl, by kernel_rfl, by kernel_rfl, by kernel_rfl, by kernel_rfl, by kernel_rfl, by kernel_rfl, ⟨by kernel_rfl, by kernel_rfl, by kernel_rfl⟩, fun h => by cases h⟩
theorem tiok83 : TIok Tryz.prog 83 ti83 := ⟨by kernel_rfl, by kernel_rfl, by kernel_rfl, by kernel_rfl, by kernel_rfl, by kernel_rfl, by kernel_rfl, by kernel_rfl, ⟨by kernel_rfl, by kernel_rfl, by kernel_rfl⟩, fun h => by cases h⟩
theorem tiok99 : TIok Tryz.prog 99 ti99 := ⟨by kernel_rfl, by kernel_rfl, by kernel_rfl, by kernel_rfl, by kernel_rfl, by kernel_rfl, by kernel_rfl, by kernel_rfl, ⟨by kernel_rfl, by kernel_rfl, by kernel_rfl⟩, fun h => by cases h⟩
theorem tiok108 : TIok Tryz.prog 108 ti108 := ⟨by kernel_rfl, by kernel_rfl, by kernel_rfl, by kernel_rfl, by kernel_rfl, by kernel_rfl, by kernel_rfl, by kernel_rfl, trivial, fun h => by cases h⟩
theorem tiok113 : TIok Tryz.prog 113 ti113 := ⟨by kernel_rfl, by kernel_rfl, by kernel_rfl, by kernel_rfl, by kernel_rfl, by kernel_rfl, by kernel_rfl, by kernel_rfl, ⟨by kernel_rfl, by kernel_rfl, by kernel_rfl⟩, fun h => by cases h⟩
theorem tiok122 : TIok Tryz.prog 122 ti122 := ⟨by kernel_rfl, by kernel_rfl, by kernel_rfl, by kernel_rfl, by kernel_rfl, by kernel_rfl, by kernel_rfl, by kernel_rfl, ⟨by kernel_rfl, by kernel_rfl, by kernel_rfl⟩, fun h => by cases h⟩
theorem tis_ok : CtxTI Tryz.prog CT := look_all (l := tis) (all_cons tiok2 (all_cons tiok3 (all_cons tiok4 (all_cons tiok5 (all_cons tiok9 (all_cons tiok22 (all_cons tiok27 (all_cons tiok29 (all_cons tiok30 (all_cons tiok32 (all_cons tiok36 (all_cons tiok53 (all_cons tiok56 (all_cons tiok83 (all_cons tiok99 (all_cons tiok108 (all_cons tiok113 (all_cons tiok122 all_nil))))))))))))))))))
def FnOk (f : Nat) (fn : Func) : Prop := Tryz.prog.funcs[f]? = some fn ∧ fn.body.isSome = true ∧ (fn.name == "runtime.NumGoroutine") = false
def ParOk (i : Nat) (fn : Func) : Prop := ((look ptsL i).getD []).length ≤ fn.ntmps
theorem fnok26 : FnOk 26 Tryz.f26 := ⟨Tryz.func26, by kernel_rfl, by kernel_rfl⟩
theorem parok26 : ParOk 26 Tryz.f26 := Nat.le_of_ble_eq_true (by kernel_rfl)
theorem fnok53 : FnOk 53 Tryz.f53 := ⟨Tryz.func53, by kernel_rfl, by kernel_rfl⟩
theorem parok53 : ParOk 53 Tryz.f53 := Nat.le_of_ble_eq_true (by kernel_rfl)
theorem fnok54 : FnOk 54 Tryz.f54 := ⟨Tryz.func54, by kernel_rfl, by kernel_rfl⟩
theorem parok54 : ParOk 54 Tryz.f54 := Nat.le_of_ble_eq_true (by kernel_rfl)
theorem fnok55 : FnOk 55 Tryz.f55 := ⟨Tryz.func55, by kernel_rfl, by kernel_rfl⟩
theorem parok55 : ParOk 55 Tryz.f55 := Nat.le_of_ble_eq_true (by kernel_rfl)
theorem fnok63 : FnOk 63 Tryz.f63 := ⟨Tryz.func63, by kernel_rfl, by kernel_rfl⟩
theorem parok63 : ParOk 63 Tryz.f63 := Nat.le_of_ble_eq_true (by kernel_rfl)
theorem fnok76 : FnOk 76 Tryz.f76 := ⟨Tryz.func76, by kernel_rfl, by kernel_rfl⟩
theorem parok76 : ParOk 76 Tryz.f76 := Nat.le_of_ble_eq_true (by kernel_rfl)
theorem fnok77 : FnOk 77 Tryz.f77 := ⟨Tryz.func77, by kernel_rfl, by kernel_rfl⟩
theorem parok77 : ParOk 77 Tryz.f77 := Nat.le_of_ble_eq_true (by kernel_rfl)
theorem fnok86 : FnOk 86 Tryz.f86 := ⟨Tryz.func86, by kernel_rfl, by kernel_rfl⟩
theorem parok86 : ParOk 86 Tryz.f86 := Nat.le_of_ble_eq_true (by kernel_rfl)
theorem fnok97 : FnOk 97 Tryz.f97 := ⟨Tryz.func97, by kernel_rfl, by kernel_rfl⟩
theorem parok97 : ParOk 97 Tryz.f97 := Nat.le_of_ble_eq_true (by kernel_rfl)
theorem fnok3 : FnOk 3 Tryz.f3 := ⟨Tryz.func3, by kernel_rfl, by kernel_rfl⟩
theorem parok3 : ParOk 3 Tryz.f3 := Nat.le_of_ble_eq_true (by kernel_rfl)
theorem fnok4 : FnOk 4 Tryz.f4 := ⟨Tryz.func4, by kernel_rfl, by kernel_rfl⟩
theorem parok4 : ParOk 4 Tryz.f4 := Nat.le_of_ble_eq_true (by kernel_rfl)
theorem fnok5 : FnOk 5 Tryz.f5 := ⟨Tryz.func5, by kernel_rfl, by kernel_rfl⟩
theorem parok5 : ParOk 5 Tryz.f5 := Nat.le_of_ble_eq_true (by kernel_rfl)
theorem fnok6 : FnOk 6 Tryz.f6 := ⟨Tryz.func6, by kernel_rfl, by kernel_rfl⟩
theorem parok6 : ParOk 6 Tryz.f6 := Nat.le_of_ble_eq_true (by kernel_rfl)
theorem fnok7 : FnOk 7 Tryz.f7 := ⟨Tryz.func7, by kernel_rfl, by kernel_rfl⟩
theorem parok7 : ParOk 7 Tryz.f7 := Nat.le_of_ble_eq_true (by kernel_rfl)
theorem fnok8 : FnOk 8 Tryz.f8 := ⟨Tryz.func8, by kernel_rfl, by kernel_rfl⟩
theorem parok8 : ParOk 8 Tryz.f8 := Nat.le_of_ble_eq_true (by kernel_rfl)
theorem fnok9 : FnOk 9 Tryz.f9 := ⟨Tryz.func9, by kernel_rfl, by kernel_rfl⟩
theorem parok9 : ParOk 9 Tryz.f9 := Nat.le_of_ble_eq_true (by kernel_rfl)
theorem fnok10 : FnOk 10 Tryz.f10 := ⟨Tryz.func10, by kernel_rfl, by kernel_rfl⟩
theorem parok10 : ParOk 10 Tryz.f10 := Nat.le_of_ble_eq_true (by kernel_rfl)
theorem fnok11 : FnOk 11 Tryz.f11 := ⟨Tryz.func11, by kernel_rfl, by kernel_rfl⟩
theorem parok11 : ParOk 11 Tryz.f11 := Nat.le_of_ble_eq_true (by kernel_rfl)
theorem fnok12 : FnOk 12 Tryz.f12 := ⟨Tryz.func12, by kernel_rfl, by kernel_rfl⟩
theorem parok12 : ParOk 12 Tryz.f12 := Nat.le_of_ble_eq_true (by kernel_rfl)
theorem fnok13 : FnOk 13 Tryz.f13 := ⟨Tryz.func13, by kernel_rfl, by kernel_rfl⟩
theorem parok13 : ParOk 13 Tryz.f13 := Nat.le_of_ble_eq_true (by kernel_rfl)
theorem fnok14 : FnOk 14 Tryz.f14 := ⟨Tryz.func14, by kernel_rfl, by kernel_rfl⟩
theorem parok14 : ParOk 14 Tryz.f14 := Nat.le_of_ble_eq_true (by kernel_rfl)
theorem fnok15 : FnOk 15 Tryz.f15 := ⟨Tryz.func15, by kernel_rfl, by kernel_rfl⟩
theorem parok15 : ParOk 15 Tryz.f15 := Nat.le_of_ble_eq_true (by kernel_rfl)
theorem fnok16 : FnOk 16 Tryz.f16 := ⟨Tryz.func16, by kernel_rfl, by kernel_rfl⟩
theorem parok16 : ParOk 16 Tryz.f16 := Nat.le_of_ble_eq_true (by kernel_rfl)
theorem fnok17 : FnOk 17 Tryz.f17 := ⟨Tryz.func17, by kernel_rfl, by kernel_rfl⟩
theorem parok17 : ParOk 17 Tryz.f17 := Nat.le_of_ble_eq_true (by kernel_rfl)
theorem fnok18 : FnOk 18 Tryz.f18 := ⟨Tryz.func18, by kernel_rfl, by kernel_rfl⟩
theorem parok18 : ParOk 18 Tryz.f18 := Nat.le_of_ble_eq_true (by kernel_rfl)
theorem fnok19 : FnOk 19 Tryz.f19 := ⟨Tryz.func19, by kernel_rfl, by kernel_rfl⟩
theorem parok19 : ParOk 19 Tryz.f19 := Nat.le_of_ble_eq_true (by kernel_rfl)
theorem fnok20 : FnOk 20 Tryz.f20 := ⟨Tryz.func20, by kernel_rfl, by kernel_rfl⟩
theorem parok20 : ParOk 20 Tryz.f20 := Nat.le_of_ble_eq_true (by kernel_rfl)
theorem fnok21 : FnOk 21 Tryz.f21 := ⟨Tryz.func21, by kernel_rfl, by kernel_rfl⟩
theorem parok21 : ParOk 21 Tryz.f21 := Nat.le_of_ble_eq_true (by kernel_rfl)
theorem fnok22 : FnOk 22 Tryz.f22 := ⟨Tryz.func22, by kernel_rfl, by kernel_rfl⟩
theorem parok22 : ParOk 22 Tryz.f22 := Nat.le_of_ble_eq_true (by kernel_rfl)
theorem fnok23 : FnOk 23 Tryz.f23 := ⟨Tryz.func23, by kernel_rfl, by kernel_rfl⟩
theorem parok23 : ParOk 23 Tryz.f23 := Nat.le_of_ble_eq_true (by kernel_rfl)
theorem fnok24 : FnOk 24 Tryz.f24 := ⟨Tryz.func24, by kernel_rfl, by kernel_rfl⟩
theorem parok24 : ParOk 24 Tryz.f24 := Nat.le_of_ble_eq_true (by kernel_rfl)
theorem fnok25 : FnOk 25 Tryz.f25 := ⟨Tryz.func25, by kernel_rfl, by kernel_rfl⟩
theorem parok25 : ParOk 25 Tryz.f25 := Nat.le_of_ble_eq_true (by kernel_rfl)
theorem fnok27 : FnOk 27 Tryz.f27 := ⟨Tryz.func27, by kernel_rfl, by kernel_rfl⟩
theorem parok27 : ParOk 27 Tryz.f27 := Nat.le_of_ble_eq_true (by kernel_rfl)
theorem fnok28 : FnOk 28 Tryz.f28 := ⟨Tryz.func28, by kernel_rfl, by kernel_rfl⟩
theorem parok28 : ParOk 28 Tryz.f28 := Nat.le_of_ble_eq_true (by kernel_rfl)
theorem fnok29 : FnOk 29 Tryz.f29 := ⟨Tryz.func29, by kernel_rfl, by kernel_rfl⟩
theorem parok29 : ParOk 29 Tryz.f29 := Nat.le_of_ble_eq_true (by kernel_rfl)
theorem fnok30 : FnOk 30 Tryz.f30 := ⟨Tryz.func30, by kernel_rfl, by kernel_rfl⟩
theorem parok30 : ParOk 30 Tryz.f30 := Nat.le_of_ble_eq_true (by kernel_rfl)
theorem fnok31 : FnOk 31 Tryz.f31 := ⟨Tryz.func31, by kernel_rfl, by kernel_rfl⟩
theorem parok31 : ParOk 31 Tryz.f31 := Nat.le_of_ble_eq_true (by kernel_rfl)
theorem fnok32 : FnOk 32 Tryz.f32 := ⟨Tryz.func32, by kernel_rfl, by kernel_rfl⟩
theorem parok32 : ParOk 32 Tryz.f32 := Nat.le_of_ble_eq_true (by kernel_rfl)
theorem fnok33 : FnOk 33 Tryz.f33 := ⟨Tryz.func33, by kernel_rfl, by kernel_rfl⟩
theorem parok33 : ParOk 33 Tryz.f33 := Nat.le_of_ble_eq_true (by kernel_rfl)
theorem fnok34 : FnOk 34 Tryz.f34 := ⟨Tryz.func34, by kernel_rfl, by kernel_rfl⟩
theorem parok34 : ParOk 34 Tryz.f34 := Nat.le_of_ble_eq_true (by kernel_rfl)
theorem fnok35 : FnOk 35 Tryz.f35 := ⟨Tryz.func35, by kernel_rfl, by kernel_rfl⟩
theorem parok35 : ParOk 35 Tryz.f35 := Nat.le_of_ble_eq_true (by kernel_rfl)
theorem fnok36 : FnOk 36 Tryz.f36 := ⟨Tryz.func36, by kernel_rfl, by kernel_rfl⟩
theorem parok36 : ParOk 36 Tryz.f36 := Nat.le_of_ble_eq_true (by kernel_rfl)
theorem fnok37 : FnOk 37 Tryz.f37 := ⟨Tryz.func37, by kernel_rfl, by kernel_rfl⟩
theorem parok37 : ParOk 37 Tryz.f37 := Nat.le_of_ble_eq_true (by kernel_rfl)
theorem fnok38 : FnOk 38 Tryz.f38 := ⟨Tryz.func38, by kernel_rfl, by kernel_rfl⟩
theorem parok38 : ParOk 38 Tryz.f38 := Nat.le_of_ble_eq_true (by kernel_rfl)
theorem fnok39 : FnOk 39 Tryz.f39 := ⟨Tryz.func39, by kernel_rfl, by kernel_rfl⟩
theorem parok39 : ParOk 39 Tryz.f39 := Nat.le_of_ble_eq_true (by kernel_rfl)
theorem fnok40 : FnOk 40 Tryz.f40 := ⟨Tryz.func40, by kernel_rfl, by kernel_rfl⟩
theorem parok40 : ParOk 40 Tryz.f40 := Nat.le_of_ble_eq_true (by kernel_rfl)
theorem fnok41 : FnOk 41 Tryz.f41 := ⟨Tryz.func41, by kernel_rfl, by kernel_rfl⟩
theorem parok41 : ParOk 41 Tryz.f41 := Nat.le_of_ble_eq_true (by kernel_rfl)
theorem fnok42 : FnOk 42 Tryz.f42 := ⟨Tryz.func42, by kernel_rfl, by kernel_rfl⟩
theorem parok42 : ParOk 42 Tryz.f42 := Nat.le_of_ble_eq_true (by kernel_rfl)
theorem fnok43 : FnOk 43 Tryz.f43 := ⟨Tryz.func43, by kernel_rfl, by kernel_rfl⟩
theorem parok43 : ParOk 43 Tryz.f43 := Nat.le_of_ble_eq_true (by kernel_rfl)
theorem fnok44 : FnOk 44 Tryz.f44 := ⟨Tryz.func44, by kernel_rfl, by kernel_rfl⟩
theorem parok44 : ParOk 44 Tryz.f44 := Nat.le_of_ble_eq_true (by kernel_rfl)
theorem fnok45 : FnOk 45 Tryz.f45 := ⟨Tryz.func45, by kernel_rfl, by kernel_rfl⟩
theorem parok45 : ParOk 45 Tryz.f45 := Nat.le_of_ble_eq_true (by kernel_rfl)
theorem fnok46 : FnOk 46 Tryz.f46 := ⟨Tryz.func46, by kernel_rfl, by kernel_rfl⟩
theorem parok46 : ParOk 46 Tryz.f46 := Nat.le_of_ble_eq_true (by kernel_rfl)
theorem fnok47 : FnOk 47 Tryz.f47 := ⟨Tryz.func47, by kernel_rfl, by kernel_rfl⟩
theorem parok47 : ParOk 47 Tryz.f47 := Nat.le_of_ble_eq_true (by kernel_rfl)
theorem fnok48 : FnOk 48 Tryz.f48 := ⟨Tryz.func48, by kernel_rfl, by kernel_rfl⟩
theorem parok48 : ParOk 48 Tryz.f48 := Nat.le_of_ble_eq_true (by kernel_rfl)
theorem fnok49 : FnOk 49 Tryz.f49 := ⟨Tryz.func49, by kernel_rfl, by kernel_rfl⟩
theorem parok49 : ParOk 49 Tryz.f49 := Nat.le_of_ble_eq_true (by kernel_rfl)
theorem fnok50 : FnOk 50 Tryz.f50 := ⟨Tryz.func50, by kernel_rfl, by kernel_rfl⟩
theorem parok50 : ParOk 50 Tryz.f50 := Nat.le_of_ble_eq_true (by kernel_rfl)
theorem fnok51 : FnOk 51 Tryz.f51 := ⟨Tryz.func51, by kernel_rfl, by kernel_rfl⟩
theorem parok51 : ParOk 51 Tryz.f51 := Nat.le_of_ble_eq_true (by kernel_rfl)
theorem fnok52 : FnOk 52 Tryz.f52 := ⟨Tryz.func52, by kernel_rfl, by kernel_rfl⟩
theorem parok52 : ParOk 52 Tryz.f52 := Nat.le_of_ble_eq_true (by kernel_rfl)
theorem fnok56 : FnOk 56 Tryz.f56 := ⟨Tryz.func56, by kernel_rfl, by kernel_rfl⟩
theorem parok56 : ParOk 56 Tryz.f56 := Nat.le_of_ble_eq_true (by kernel_rfl)
theorem fnok57 : FnOk 57 Tryz.f57 := ⟨Tryz.func57, by kernel_rfl, by kernel_rfl⟩
theorem parok57 : ParOk 57 Tryz.f57 := Nat.le_of_ble_eq_true (by kernel_rfl)
theorem fnok58 : FnOk 58 Tryz.f58 := ⟨Tryz.func58, by kernel_rfl, by kernel_rfl⟩
theorem parok58 : ParOk 58 Tryz.f58 := Nat.le_of_ble_eq_true (by kernel_rfl)
theorem fnok59 : FnOk 59 Tryz.f59 := ⟨Tryz.func59, by kernel_rfl, by kernel_rfl⟩
theorem parok59 : ParOk 59 Tryz.f59 := Nat.le_of_ble_eq_true (by kernel_rfl)
theorem fnok60 : FnOk 60 Tryz.f60 := ⟨Tryz.func60, by kernel_rfl, by kernel_rfl⟩
theorem parok60 : ParOk 60 Tryz.f60 := Nat.le_of_ble_eq_true (by kernel_rfl)
theorem fnok61 : FnOk 61 Tryz.f61 := ⟨Tryz.func61, by kernel_rfl, by kernel_rfl⟩
theorem parok61 : ParOk 61 Tryz.f61 := Nat.le_of_ble_eq_true (by kernel_rfl)
theorem fnok62 : FnOk 62 Tryz.f62 := ⟨Tryz.func62, by kernel_rfl, by kernel_rfl⟩
theorem parok62 : ParOk 62 Tryz.f62 := Nat.le_of_ble_eq_true (by kernel_rfl)
theorem fnok64 : FnOk 64 Tryz.f64 := ⟨Tryz.func64, by kernel_rfl, by kernel_rfl⟩
theorem parok64 : ParOk 64 Tryz.f64 := Nat.le_of_ble_eq_true (by kernel_rfl)
theorem fnok65 : FnOk 65 Tryz.f65 := ⟨Tryz.func65, by kernel_rfl, by kernel_rfl⟩
theorem parok65 : ParOk 65 Tryz.f65 := Nat.le_of_ble_eq_true (by kernel_rfl)
theorem fnok66 : FnOk 66 Tryz.f66 := ⟨Tryz.func66, by kernel_rfl, by kernel_rfl⟩
theorem parok66 : ParOk 66 Tryz.f66 := Nat.le_of_ble_eq_true (by kernel_rfl)
theorem fnok67 : FnOk 67 Tryz.f67 := ⟨Tryz.func67, by kernel_rfl, by kernel_rfl⟩
theorem parok67 : ParOk 67 Tryz.f67 := Nat.le_of_ble_eq_true (by kernel_rfl)
theorem fnok68 : FnOk 68 Tryz.f68 := ⟨Tryz.func68, by kernel_rfl, by kernel_rfl⟩
theorem parok68 : ParOk 68 Tryz.f68 := Nat.le_of_ble_eq_true (by kernel_rfl)
theorem fnok69 : FnOk 69 Tryz.f69 := ⟨Tryz.func69, by kernel_rfl, by kernel_rfl⟩
theorem parok69 : ParOk 69 Tryz.f69 := Nat.le_of_ble_eq_true (by kernel_rfl)
theorem fnok70 : FnOk 70 Tryz.f70 := ⟨Tryz.func70, by kernel_rfl, by kernel_rfl⟩
theorem parok70 : ParOk 70 Tryz.f70 := Nat.le_of_ble_eq_true (by kernel_rfl)
theorem fnok72 : FnOk 72 Tryz.f72 := ⟨Tryz.func72, by kernel_rfl, by kernel_rfl⟩
theorem parok72 : ParOk 72 Tryz.f72 := Nat.le_of_ble_eq_true (by kernel_rfl)
theorem fnok75 : FnOk 75 Tryz.f75 := ⟨Tryz.func75, by kernel_rfl, by kernel_rfl⟩
theorem parok75 : ParOk 75 Tryz.f75 := Nat.le_of_ble_eq_true (by kernel_rfl)
theorem fnok78 : FnOk 78 Tryz.f78 := ⟨Tryz.func78, by kernel_rfl, by kernel_rfl⟩
theorem parok78 : ParOk 78 Tryz.f78 := Nat.le_of_ble_eq_true (by kernel_rfl)
theorem fnok79 : FnOk 79 Tryz.f79 := ⟨Tryz.func79, by kernel_rfl, by kernel_rfl⟩
theorem parok79 : ParOk 79 Tryz.f79 := Nat.le_of_ble_eq_true (by kernel_rfl)
theorem fnok80 : FnOk 80 Tryz.f80 := ⟨Tryz.func80, by kernel_rfl, by kernel_rfl⟩
theorem parok80 : ParOk 80 Tryz.f80 := Nat.le_of_ble_eq_true (by kernel_rfl)
theorem fnok81 : FnOk 81 Tryz.f81 := ⟨Tryz.func81, by kernel_rfl, by kernel_rfl⟩
theorem parok81 : ParOk 81 Tryz.f81 := Nat.le_of_ble_eq_true (by kernel_rfl)
theorem fnok82 : FnOk 82 Tryz.f82 := ⟨Tryz.func82, by kernel_rfl, by kernel_rfl⟩
theorem parok82 : ParOk 82 Tryz.f82 := Nat.le_of_ble_eq_true (by kernel_rfl)
theorem fnok83 : FnOk 83 Tryz.f83 := ⟨Tryz.func83, by kernel_rfl, by kernel_rfl⟩
theorem parok83 : ParOk 83 Tryz.f83 := Nat.le_of_ble_eq_true (by kernel_rfl)
theorem fnok84 : FnOk 84 Tryz.f84 := ⟨Tryz.func84, by kernel_rfl, by kernel_rfl⟩
theorem parok84 : ParOk 84 Tryz.f84 := Nat.le_of_ble_eq_true (by kernel_rfl)
theorem fnok85 : FnOk 85 Tryz.f85 := ⟨Tryz.func85, by kernel_rfl, by kernel_rfl⟩
theorem parok85 : ParOk 85 Tryz.f85 := Nat.le_of_ble_eq_true (by kernel_rfl)
theorem fnok87 : FnOk 87 Tryz.f87 := ⟨Tryz.func87, by kernel_rfl, by kernel_rfl⟩
theorem parok87 : ParOk 87 Tryz.f87 := Nat.le_of_ble_eq_true (by kernel_rfl)
theorem fnok88 : FnOk 88 Tryz.f88 := ⟨Tryz.func88, by kernel_rfl, by kernel_rfl⟩
theorem parok88 : ParOk 88 Tryz.f88 := Nat.le_of_ble_eq_true (by kernel_rfl)
theorem fnok89 : FnOk 89 Tryz.f89 := ⟨Tryz.func89, by kernel_rfl, by kernel_rfl⟩
theorem parok89 : ParOk 89 Tryz.f89 := Nat.le_of_ble_eq_true (by kernel_rfl)
theorem fnok90 : FnOk 90 Tryz.f90 := ⟨Tryz.func90, by kernel_rfl, by kernel_rfl⟩
theorem parok90 : ParOk 90 Tryz.f90 := Nat.le_of_ble_eq_true (by kernel_rfl)
theorem fnok91 : FnOk 91 Tryz.f91 := ⟨Tryz.func91, by kernel_rfl, by kernel_rfl⟩
theorem parok91 : ParOk 91 Tryz.f91 := Nat.le_of_ble_eq_true (by kernel_rfl)
theorem fnok92 : FnOk 92 Tryz.f92 := ⟨Tryz.func92, by kernel_rfl, by kernel_rfl⟩
theorem parok92 : ParOk 92 Tryz.f92 := Nat.le_of_ble_eq_true (by kernel_rfl)
theorem fnok94 : FnOk 94 Tryz.f94 := ⟨Tryz.func94, by kernel_rfl, by kernel_rfl⟩
theorem parok94 : ParOk 94 Tryz.f94 := Nat.le_of_ble_eq_true (by kernel_rfl)
theorem fnok96 : FnOk 96 Tryz.f96 := ⟨Tryz.func96, by kernel_rfl, by kernel_rfl⟩
theorem parok96 : ParOk 96 Tryz.f96 := Nat.le_of_ble_eq_true (by kernel_rfl)
theorem fnok98 : FnOk 98 Tryz.f98 := ⟨Tryz.func98, by kernel_rfl, by kernel_rfl⟩
theorem parok98 : ParOk 98 Tryz.f98 := Nat.le_of_ble_eq_true (by kernel_rfl)
theorem fnok99 : FnOk 99 Tryz.f99 := ⟨Tryz.func99, by kernel_rfl, by kernel_rfl⟩
theorem parok99 : ParOk 99 Tryz.f99 := Nat.le_of_ble_eq_true (by kernel_rfl)
theorem fnok100 : FnOk 100 Tryz.f100 := ⟨Tryz.func100, by kernel_rfl, by kernel_rfl⟩
theorem parok100 : ParOk 100 Tryz.f100 := Nat.le_of_ble_eq_true (by kernel_rfl)
theorem fnok101 : FnOk 101 Tryz.f101 := ⟨Tryz.func101, by kernel_rfl, by kernel_rfl⟩
theorem parok101 : ParOk 101 Tryz.f101 := Nat.le_of_ble_eq_true (by kernel_rfl)
theorem fnok102 : FnOk 102 Tryz.f102 := ⟨Tryz.func102, by kernel_rfl, by kernel_rfl⟩
theorem parok102 : ParOk 102 Tryz.f102 := Nat.le_of_ble_eq_true (by kernel_rfl)
theorem fnok103 : FnOk 103 Tryz.f103 := ⟨Tryz.func103, by kernel_rfl, by kernel_rfl⟩
theorem parok103 : ParOk 103 Tryz.f103 := Nat.le_of_ble_eq_true (by kernel_rfl)
theorem fnok104 : FnOk 104 Tryz.f104 := ⟨Tryz.func104, by kernel_rfl, by kernel_rfl⟩
theorem parok104 : ParOk 104 Tryz.f104 := Nat.le_of_ble_eq_true (by kernel_rfl)
theorem fnok105 : FnOk 105 Tryz.f105 := ⟨Tryz.func105, by kernel_rfl, by kernel_rfl⟩
theorem parok105 : ParOk 105 Tryz.f105 := Nat.le_of_ble_eq_true (by kernel_rfl)
theorem fnok106 : FnOk 106 Tryz.f106 := ⟨Tryz.func106, by kernel_rfl, by kernel_rfl⟩
theorem parok106 : ParOk 106 Tryz.f106 := Nat.le_of_ble_eq_true (by kernel_rfl)
theorem fnok107 : FnOk 107 Tryz.f107 := ⟨Tryz.func107, by kernel_rfl, by kernel_rfl⟩
theorem parok107 : ParOk 107 Tryz.f107 := Nat.le_of_ble_eq_true (by kernel_rfl)
theorem fnok108 : FnOk 108 Tryz.f108 := ⟨Tryz.func108, by kernel_rfl, by kernel_rfl⟩
theorem parok108 : ParOk 108 Tryz.f108 := Nat.le_of_ble_eq_true (by kernel_rfl)
theorem fnok109 : FnOk 109 Tryz.f109 := ⟨Tryz.func109, by kernel_rfl, by kernel_rfl⟩
theorem parok109 : ParOk 109 Tryz.f109 := Nat.le_of_ble_eq_true (by kernel_rfl)
theorem fnok110 : FnOk 110 Tryz.f110 := ⟨Tryz.func110, by kernel_rfl, by kernel_rfl⟩
theorem parok110 : ParOk 110 Tryz.f110 := Nat.le_of_ble_eq_true (by kernel_rfl)
theorem fnok111 : FnOk 111 Tryz.f111 := ⟨Tryz.func111, by kernel_rfl, by kernel_rfl⟩
theorem parok111 : ParOk 111 Tryz.f111 := Nat.le_of_ble_eq_true (by kernel_rfl)
theorem fnok112 : FnOk 112 Tryz.f112 := ⟨Tryz.func112, by kernel_rfl, by kernel_rfl⟩
theorem parok112 : ParOk 112 Tryz.f112 := Nat.le_of_ble_eq_true (by kernel_rfl)
theorem fnok113 : FnOk 113 Tryz.f113 := ⟨Tryz.func113, by kernel_rfl, by kernel_rfl⟩
theorem parok113 : ParOk 113 Tryz.f113 := Nat.le_of_ble_eq_true (by kernel_rfl)
theorem fnok114 : FnOk 114 Tryz.f114 := ⟨Tryz.func114, by kernel_rfl, by kernel_rfl⟩
theorem parok114 : ParOk 114 Tryz.f114 := Nat.le_of_ble_eq_true (by kernel_rfl)
theorem fnok115 : FnOk 115 Tryz.f115 := ⟨Tryz.func115, by kernel_rfl, by kernel_rfl⟩
theorem parok115 : ParOk 115 Tryz.f115 := Nat.le_of_ble_eq_true (by kernel_rfl)
theorem fnok116 : FnOk 116 Tryz.f116 := ⟨Tryz.func116, by kernel_rfl, by kernel_rfl⟩
theorem parok116 : ParOk 116 Tryz.f116 := Nat.le_of_ble_eq_true (by kernel_rfl)
theorem fnok118 : FnOk 118 Tryz.f118 := ⟨Tryz.func118, by kernel_rfl, by kernel_rfl⟩
theorem parok118 : ParOk 118 Tryz.f118 := Nat.le_of_ble_eq_true (by kernel_rfl)
theorem fnok119 : FnOk 119 Tryz.f119 := ⟨Tryz.func119, by kernel_rfl, by kernel_rfl⟩
theorem parok119 : ParOk 119 Tryz.f119 := Nat.le_of_ble_eq_true (by kernel_rfl)
theorem fnok120 : FnOk 120 Tryz.f120 := ⟨Tryz.func120, by kernel_rfl, by kernel_rfl⟩
theorem parok120 : ParOk 120 Tryz.f120 := Nat.le_of_ble_eq_true (by kernel_rfl)
theorem fnok121 : FnOk 121 Tryz.f121 := ⟨Tryz.func121, by kernel_rfl, by kernel_rfl⟩
theorem parok121 : ParOk 121 Tryz.f121 := Nat.le_of_ble_eq_true (by kernel_rfl)
theorem fnok122 : FnOk 122 Tryz.f122 := ⟨Tryz.func122, by kernel_rfl, by kernel_rfl⟩
theorem parok122 : ParOk 122 Tryz.f122 := Nat.le_of_ble_eq_true (by kernel_rfl)
theorem fnok123 : FnOk 123 Tryz.f123 := ⟨Tryz.func123, by kernel_rfl, by kernel_rfl⟩
theorem parok123 : ParOk 123 Tryz.f123 := Nat.le_of_ble_eq_true (by kernel_rfl)
theorem fnok124 : FnOk 124 Tryz.f124 := ⟨Tryz.func124, by kernel_rfl, by kernel_rfl⟩
theorem parok124 : ParOk 124 Tryz.f124 := Nat.le_of_ble_eq_true (by kernel_rfl)
theorem fnok125 : FnOk 125 Tryz.f125 := ⟨Tryz.func125, by kernel_rfl, by kernel_rfl⟩
theorem parok125 : ParOk 125 Tryz.f125 := Nat.le_of_ble_eq_true (by kernel_rfl)
theorem fnok126 : FnOk 126 Tryz.f126 := ⟨Tryz.func126, by kernel_rfl, by kernel_rfl⟩
theorem parok126 : ParOk 126 Tryz.f126 := Nat.le_of_ble_eq_true (by kernel_rfl)
theorem fnok128 : FnOk 128 Tryz.f128 := ⟨Tryz.func128, by kernel_rfl, by kernel_rfl⟩
theorem parok128 : ParOk 128 Tryz.f128 := Nat.le_of_ble_eq_true (by kernel_rfl)
theorem fnok129 : FnOk 129 Tryz.f129 := ⟨Tryz.func129, by kernel_rfl, by kernel_rfl⟩
theorem parok129 : ParOk 129 Tryz.f129 := Nat.le_of_ble_eq_true (by kernel_rfl)
theorem fnok133 : FnOk 133 Tryz.f133 := ⟨Tryz.func133, by kernel_rfl, by kernel_rfl⟩
theorem parok133 : ParOk 133 Tryz.f133 := Nat.le_of_ble_eq_true (by kernel_rfl)
theorem fnok134 : FnOk 134 Tryz.f134 := ⟨Tryz.func134, by kernel_rfl, by kernel_rfl⟩
theorem parok134 : ParOk 134 Tryz.f134 := Nat.le_of_ble_eq_true (by kernel_rfl)
theorem fnok138 : FnOk 138 Tryz.f138 := ⟨Tryz.func138, by kernel_rfl, by kernel_rfl⟩
theorem parok138 : ParOk 138 Tryz.f138 := Nat.le_of_ble_eq_true (by kernel_rfl)
theorem fnok139 : FnOk 139 Tryz.f139 := ⟨Tryz.func139, by kernel_rfl, by kernel_rfl⟩
theorem parok139 : ParOk 139 Tryz.f139 := Nat.le_of_ble_eq_true (by kernel_rfl)
theorem fnok140 : FnOk 140 Tryz.f140 := ⟨Tryz.func140, by kernel_rfl, by kernel_rfl⟩
theorem parok140 : ParOk 140 Tryz.f140 := Nat.le_of_ble_eq_true (by kernel_rfl)
theorem fnok142 : FnOk 142 Tryz.f142 := ⟨Tryz.func142, by kernel_rfl, by kernel_rfl⟩
theorem parok142 : ParOk 142 Tryz.f142 := Nat.le_of_ble_eq_true (by kernel_rfl)
theorem fnok143 : FnOk 143 Tryz.f143 := ⟨Tryz.func143, by kernel_rfl, by kernel_rfl⟩
theorem parok143 : ParOk 143 Tryz.f143 := Nat.le_of_ble_eq_true (by kernel_rfl)
theorem fnok144 : FnOk 144 Tryz.f144 := ⟨Tryz.func144, by kernel_rfl, by kernel_rfl⟩
theorem parok144 : ParOk 144 Tryz.f144 := Nat.le_of_ble_eq_true (by kernel_rfl)
theorem fnok154 : FnOk 154 Tryz.f154 := ⟨Tryz.func154, by kernel_rfl, by kernel_rfl⟩
theorem parok154 : ParOk 154 Tryz.f154 := Nat.le_of_ble_eq_true (by kernel_rfl)
theorem fnok157 : FnOk 157 Tryz.f157 := ⟨Tryz.func157, by kernel_rfl, by kernel_rfl⟩
theorem parok157 : ParOk 157 Tryz.f157 := Nat.le_of_ble_eq_true (by kernel_rfl)
theorem fnok159 : FnOk 159 Tryz.f159 := ⟨Tryz.func159, by kernel_rfl, by kernel_rfl⟩
theorem parok159 : ParOk 159 Tryz.f159 := Nat.le_of_ble_eq_true (by kernel_rfl)
theorem fnok160 : FnOk 160 Tryz.f160 := ⟨Tryz.func160, by kernel_rfl, by kernel_rfl⟩
theorem parok160 : ParOk 160 Tryz.f160 := Nat.le_of_ble_eq_true (by kernel_rfl)
theorem fnok161 : FnOk 161 Tryz.f161 := ⟨Tryz.func161, by kernel_rfl, by kernel_rfl⟩
theorem parok161 : ParOk 161 Tryz.f161 := Nat.le_of_ble_eq_true (by kernel_rfl)
theorem fns_ok : ∀ f fn, look fns f = some fn → FnOk f fn := look_all (Q := FnOk) (l := fns) (all_cons fnok3 (all_cons fnok4 (all_cons fnok5 (all_cons fnok6 (all_cons fnok7 (all_cons fnok8 (all_cons fnok9 (all_cons fnok10 (all_cons fnok11 (all_cons fnok12 (all_cons fnok13 (all_cons fnok14 (all_cons fnok15 (all_cons fnok16 (all_cons fnok17 (all_cons fnok18 (all_cons fnok19 (all_cons fnok20 (all_cons fnok21 (all_cons fnok22 (all_cons fnok23 (all_cons fnok24 (all_cons fnok25 (all_cons fnok27 (all_cons fnok28 (all_cons fnok29 (all_cons fnok30 (all_cons fnok31 (all_cons fnok32 (all_cons fnok33 (all_cons fnok34 (all_cons fnok35 (all_cons fnok36 (all_cons fnok37 (all_cons fnok38 (all_cons fnok39 (all_cons fnok40 (all_cons fnok41 (all_cons fnok42 (all_cons fnok43 (all_cons fnok44 (all_cons fnok45 (all_cons fnok46 (all_cons fnok47 (all_cons fnok48 (all_cons fnok49 (all_cons fnok50 (all_cons fnok51 (all_cons fnok52 (all_cons fnok56 (all_cons fnok57 (all_cons fnok58 (all_cons fnok59 (all_cons fnok60 (all_cons fnok61 (all_cons fnok62 (all_cons fnok64 (all_cons fnok65 (all_cons fnok66 (all_cons fnok67 (all_cons fnok68 (all_cons fnok69 (all_cons fnok70 (all_cons fnok72 (all_cons fnok75 (all_cons fnok78 (all_cons fnok79 (all_cons fnok80 (all_cons fnok81 (all_cons fnok82 (all_cons fnok83 (all_cons fnok84 (all_cons fnok85 (all_cons fnok87 (all_cons fnok88 (all_cons fnok89 (all_cons fnok90 (all_cons fnok91 (all_cons fnok92 (all_cons fnok94 (all_cons fnok96 (all_cons fnok98 (all_cons fnok99 (all_cons fnok100 (all_cons fnok101 (all_cons fnok102 (all_cons fnok103 (all_cons fnok104 (all_cons fnok105 (all_cons fnok106 (all_cons fnok107 (all_cons fnok108 (all_cons fnok109 (all_cons fnok110 (all_cons fnok111 (all_cons fnok112 (all_cons fnok113 (all_cons fnok114 (all_cons fnok115 (all_cons fnok116 (all_cons fnok118 (all_cons fnok119 (all_cons fnok120 (all_cons fnok121 (all_cons fnok122 (all_cons fnok123 (all_cons fnok124 (all_cons fnok125 (all_cons fnok126 (all_cons fnok128 (all_cons fnok129 (all_cons fnok133 (all_cons fnok134 (all_cons fnok138 (all_cons fnok139 (all_cons fnok140 (all_cons fnok142 (all_cons fnok143 (all_cons fnok144 (all_cons fnok154 (all_cons fnok157 (all_cons fnok159 (all_cons fnok160 (all_cons fnok161 (all_cons fnok26 (all_cons fnok53 (all_cons fnok54 (all_cons fnok55 (all_cons fnok63 (all_cons fnok76 (all_cons fnok77 (all_cons fnok86 (all_cons fnok97 all_nil)))))))))))))))))))))))))))))))))))))))))))))))))))))))))))))))))))))))))))))))))))))))))))))))))))))))))))))))))))))))))))))))))))))
theorem ctx_ok : CtxOk Tryz.prog CT := ⟨tis_ok, fns_ok, by kernel_rfl, inv_keeps⟩
theorem pars_ok : ∀ i fn, look fns i = some fn → ParOk i fn := look_all (Q := ParOk) (l := fns) (all_cons parok3 (all_cons parok4 (all_cons parok5 (all_cons parok6 (all_cons parok7 (all_cons parok8 (all_cons parok9 (all_cons parok10 (all_cons parok11 (all_cons parok12 (all_cons parok13 (all_cons parok14 (all_cons parok15 (all_cons parok16 (all_cons parok17 (all_cons parok18 (all_cons parok19 (all_cons parok20 (all_cons parok21 (all_cons parok22 (all_cons parok23 (all_cons parok24 (all_cons parok25 (all_cons parok27 (all_cons parok28 (all_cons parok29 (all_cons parok30 (all_cons parok31 (all_cons parok32 (all_cons parok33 (all_cons parok34 (all_cons parok35 (all_cons parok36 (all_cons parok37 (all_cons parok38 (all_cons parok39 (all_cons parok40 (all_cons parok41 (all_cons parok42 (all_cons parok43 (all_cons parok44 (all_cons parok45 (all_cons parok46 (all_cons parok47 (all_cons parok48 (all_cons parok49 (all_cons parok50 (all_cons parok51 (all_cons parok52 (all_cons parok56 (all_cons parok57 (all_cons parok58 (all_cons parok59 (all_cons parok60 (all_cons parok61 (all_cons parok62 (all_cons parok64 (all_cons parok65 (all_cons parok66 (all_cons parok67 (all_cons parok68 (all_cons parok69 (all_cons parok70 (all_cons parok72 (all_cons parok75 (all_cons parok78 (all_cons parok79 (all_cons parok80 (all_cons parok81 (all_cons parok82 (all_cons parok83 (all_cons parok84 (all_cons parok85 (all_cons parok87 (all_cons parok88 (all_cons parok89 (all_cons parok90 (all_cons parok91 (all_cons parok92 (all_cons parok94 (all_cons parok96 (all_cons parok98 (all_cons parok99 (all_cons parok100 (all_cons parok101 (all_cons parok102 (all_cons parok103 (all_cons parok104 (all_cons parok105 (all_cons parok106 (all_cons parok107 (all_cons parok108 (all_cons parok109 (all_cons parok110 (all_cons parok111 (all_cons parok112 (all_cons parok113 (all_cons parok114 (all_cons parok115 (all_cons parok116 (all_cons parok118 (all_cons parok119 (all_cons parok120 (all_cons parok121 (all_cons parok122 (all_cons parok123 (all_cons parok124 (all_cons parok125 (all_cons parok126 (all_cons parok128 (all_cons parok129 (all_cons parok133 (all_cons parok134 (all_cons parok138 (all_cons parok139 (all_cons parok140 (all_cons parok142 (all_cons parok143 (all_cons parok144 (all_cons parok154 (all_cons parok157 (all_cons parok159 (all_cons parok160 (all_cons parok161 (all_cons parok26 (all_cons parok53 (all_cons parok54 (all_cons parok55 (all_cons parok63 (all_cons parok76 (all_cons parok77 (all_cons parok86 (all_cons parok97 all_nil)))))))))))))))))))))))))))))))))))))))))))))))))))))))))))))))))))))))))))))))))))))))))))))))))))))))))))))))))))))))))))))))))))))
theorem sound (hE : ExtOk Tryz.prog CT) : ∀ k, SpecOk Tryz.prog (sem CT k) ∧ StageOk Tryz.prog (sem CT k) := sem_sound ctx_ok hE pars_ok
theorem ext_ok : ExtOk Tryz.prog CT := ext_of (l := extL) rfl (allE_cons (ext_at (Q.rtrim_ok inv_max)) (allE_cons (ext_at (Q.rgcd_ok inv_max)) (allE_cons (ext_at (Q.rbits_ok inv_max)) (allE_cons (ext_at (Q.rmul_ok inv_max)) (allE_cons (ext_at (Q.rof_ok inv_max)) (allE_cons (ext_at (Q.rdiv_ok inv_max)) (allE_cons (ext_at (Q.rcmp_ok inv_max)) (allE_cons (ext_at (Q.div_ok inv_max)) (allE_cons (ext_at (Q.small_ok inv_max)) (allE_cons (ext_at (Q.gcd_ok inv_max)) (allE_cons (ext_at (Q.of_ok inv_max)) (allE_cons (ext_at (cut_ok inv_max)) (allE_cons (ext_at (Q.cmp_ok inv_max)) (allE_cons (ext_at (Q.trim_ok inv_max)) (allE_cons (ext_at (Q.mul_ok inv_max)) (allE_cons (ext_at (Q.add_ok inv_max)) (allE_cons (ext_at (Q.pow_ok inv_max)) allE_nil)))))))))))))))))
theorem spec_ok (k : Nat) : SpecOk Tryz.prog (sem CT k) := (sound ext_ok k).1
end Go.Proofs.YtdobmpkdgkifpaaGreatDoor.K
