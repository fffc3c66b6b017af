/- Part 7 of the proof: the machine, the tables and the pure laws that the last text joins. -/
import Derived.Test.YtenapomineinbaaGreatDoorZ3
import Derived.Test.YtenapomineinbaaGreatDoorZ6
import Derived.Test.YtenapomineinbaaGreatDoorProg
/- The machine at this seat: tables, names. -/
set_option linter.unusedVariables false
set_option maxRecDepth 100000
namespace Go.Proofs.YtenapomineinbaaGreatDoor.K
open Go
def look {α : Type} : List (Nat × α) → Nat → Option α
  | [], _ => none
  | (u, v) :: l, t => match Nat.beq u t with
    | true => some v
    | false => look l t
def peq : Path → Path → Bool
  | [], [] => true
  | a :: p, b :: q => Nat.beq a b && peq p q
  | _, _ => false
def lookP : List (Nat × Path × Ann) → Nat → Path → Option Ann
  | [], _, _ => none
  | (g, u, v) :: l, f, t => match Nat.beq g f && peq u t with
    | true => some v
    | false => lookP l f t
def Inv (w : World) : Prop := MaxLen w
theorem inv_max : ∀ w, Inv w → MaxLen w := fun _ h => h
theorem inv_keeps : ∀ w w', Inv w → RowKit.Below w.heap.size w w' → Inv w' := maxLen_keeps
noncomputable def ti2 : TI := { sh := (.int .i64), size := 1, bytes := 8, zero := [(.int .i64 0)], ty := some (.int .i64), fl := [], eq := false }
noncomputable def ti3 : TI := { sh := (.int .i64), size := 1, bytes := 8, zero := [(.int .i64 0)], ty := some (.int .i64), fl := [], eq := false }
noncomputable def ti4 : TI := { sh := .bool, size := 1, bytes := 1, zero := [(.bool false)], ty := some .bool, fl := [], eq := false }
noncomputable def ti5 : TI := { sh := (.int .u8), size := 1, bytes := 1, zero := [(.int .u8 0)], ty := some (.int .u8), fl := [], eq := false }
noncomputable def ti9 : TI := { sh := .str, size := 1, bytes := 16, zero := [(.str [])], ty := some .str, fl := [], eq := false }
noncomputable def ti23 : TI := { sh := (.st [(0, 4), (1, 9), (2, 9)]), size := 3, bytes := 40, zero := [(.bool false), (.str []), (.str [])], ty := some (.pair .bool (.pair .str .str)), fl := [(0, 1, false), (1, 1, false), (2, 1, false)], eq := true }
noncomputable def ti37 : TI := { sh := (.st [(0, 3), (1, 23), (4, 9), (5, 4), (6, 3)]), size := 7, bytes := 80, zero := [(.int .i64 0), (.bool false), (.str []), (.str []), (.str []), (.bool false), (.int .i64 0)], ty := some (.pair (.int .i64) (.pair (.pair .bool (.pair .str .str)) (.pair .str (.pair .bool (.int .i64))))), fl := [(0, 1, false), (1, 3, true), (4, 1, false), (5, 1, false), (6, 1, false)], eq := true }
noncomputable def ti57 : TI := { sh := (.sl 37), size := 1, bytes := 24, zero := [.nilsl], ty := some (.sl (.pair (.int .i64) (.pair (.pair .bool (.pair .str .str)) (.pair .str (.pair .bool (.int .i64)))))), fl := [], eq := false }
noncomputable def ti68 : TI := { sh := (.st [(0, 3), (1, 9), (2, 3), (3, 23)]), size := 6, bytes := 72, zero := [(.int .i64 0), (.str []), (.int .i64 0), (.bool false), (.str []), (.str [])], ty := some (.pair (.int .i64) (.pair .str (.pair (.int .i64) (.pair .bool (.pair .str .str))))), fl := [(0, 1, false), (1, 1, false), (2, 1, false), (3, 3, true)], eq := false }
noncomputable def ti71 : TI := { sh := (.st [(0, 3), (1, 9), (2, 3), (3, 23)]), size := 6, bytes := 72, zero := [(.int .i64 0), (.str []), (.int .i64 0), (.bool false), (.str []), (.str [])], ty := some (.pair (.int .i64) (.pair .str (.pair (.int .i64) (.pair .bool (.pair .str .str))))), fl := [(0, 1, false), (1, 1, false), (2, 1, false), (3, 3, true)], eq := true }
noncomputable def ti74 : TI := { sh := (.sl 68), size := 1, bytes := 24, zero := [.nilsl], ty := some (.sl (.pair (.int .i64) (.pair .str (.pair (.int .i64) (.pair .bool (.pair .str .str)))))), fl := [], eq := false }
noncomputable def ti77 : TI := { sh := (.sl 71), size := 1, bytes := 24, zero := [.nilsl], ty := some (.sl (.pair (.int .i64) (.pair .str (.pair (.int .i64) (.pair .bool (.pair .str .str)))))), fl := [], eq := false }
noncomputable def ti88 : TI := { sh := (.int .u64), size := 1, bytes := 8, zero := [(.int .u64 0)], ty := some (.int .u64), fl := [], eq := false }
noncomputable def ti91 : TI := { sh := (.st [(0, 4), (1, 9)]), size := 2, bytes := 24, zero := [(.bool false), (.str [])], ty := some (.pair .bool .str), fl := [(0, 1, false), (1, 1, false)], eq := false }
noncomputable def ti107 : TI := { sh := (.arr 8 9), size := 8, bytes := 128, zero := [(.str []), (.str []), (.str []), (.str []), (.str []), (.str []), (.str []), (.str [])], ty := none, fl := [], eq := false }
noncomputable def ti109 : TI := { sh := (.sl 9), size := 1, bytes := 24, zero := [.nilsl], ty := some (.sl .str), fl := [], eq := false }
noncomputable def ti113 : TI := { sh := (.st [(0, 3), (1, 23), (4, 9), (5, 4), (6, 3)]), size := 7, bytes := 80, zero := [(.int .i64 0), (.bool false), (.str []), (.str []), (.str []), (.bool false), (.int .i64 0)], ty := some (.pair (.int .i64) (.pair (.pair .bool (.pair .str .str)) (.pair .str (.pair .bool (.int .i64))))), fl := [(0, 1, false), (1, 3, true), (4, 1, false), (5, 1, false), (6, 1, false)], eq := false }
noncomputable def ti131 : TI := { sh := (.sl 5), size := 1, bytes := 24, zero := [.nilsl], ty := some (.sl (.int .u8)), fl := [], eq := false }
noncomputable def ti161 : TI := { sh := (.sl 3), size := 1, bytes := 24, zero := [.nilsl], ty := some (.sl (.int .i64)), fl := [], eq := false }
noncomputable def tis : List (Nat × TI) := [(2, ti2), (3, ti3), (4, ti4), (5, ti5), (9, ti9), (23, ti23), (37, ti37), (57, ti57), (68, ti68), (71, ti71), (74, ti74), (77, ti77), (88, ti88), (91, ti91), (107, ti107), (109, ti109), (113, ti113), (131, ti131), (161, ti161)]
noncomputable def fns : List (Nat × Func) := [(3, Tryz.f3), (4, Tryz.f4), (5, Tryz.f5), (6, Tryz.f6), (8, Tryz.f8), (9, Tryz.f9), (10, Tryz.f10), (11, Tryz.f11), (12, Tryz.f12), (13, Tryz.f13), (14, Tryz.f14), (15, Tryz.f15), (16, Tryz.f16), (17, Tryz.f17), (18, Tryz.f18), (19, Tryz.f19), (20, Tryz.f20), (21, Tryz.f21), (22, Tryz.f22), (23, Tryz.f23), (24, Tryz.f24), (25, Tryz.f25), (26, Tryz.f26), (27, Tryz.f27), (28, Tryz.f28), (29, Tryz.f29), (30, Tryz.f30), (31, Tryz.f31), (32, Tryz.f32), (33, Tryz.f33), (34, Tryz.f34), (35, Tryz.f35), (36, Tryz.f36), (37, Tryz.f37), (38, Tryz.f38), (39, Tryz.f39), (40, Tryz.f40), (41, Tryz.f41), (42, Tryz.f42), (43, Tryz.f43), (44, Tryz.f44), (45, Tryz.f45), (46, Tryz.f46), (47, Tryz.f47), (49, Tryz.f49), (51, Tryz.f51), (52, Tryz.f52), (53, Tryz.f53), (54, Tryz.f54), (55, Tryz.f55), (56, Tryz.f56), (57, Tryz.f57), (58, Tryz.f58), (59, Tryz.f59), (60, Tryz.f60), (61, Tryz.f61), (62, Tryz.f62), (63, Tryz.f63), (64, Tryz.f64), (65, Tryz.f65), (66, Tryz.f66), (67, Tryz.f67), (68, Tryz.f68), (69, Tryz.f69), (70, Tryz.f70), (71, Tryz.f71), (72, Tryz.f72), (73, Tryz.f73), (74, Tryz.f74), (75, Tryz.f75), (76, Tryz.f76), (77, Tryz.f77), (78, Tryz.f78), (79, Tryz.f79), (80, Tryz.f80), (81, Tryz.f81), (82, Tryz.f82), (83, Tryz.f83), (84, Tryz.f84), (85, Tryz.f85), (86, Tryz.f86), (87, Tryz.f87), (88, Tryz.f88), (89, Tryz.f89), (90, Tryz.f90), (91, Tryz.f91), (92, Tryz.f92), (93, Tryz.f93), (94, Tryz.f94), (95, Tryz.f95), (96, Tryz.f96), (97, Tryz.f97), (98, Tryz.f98), (99, Tryz.f99), (100, Tryz.f100), (101, Tryz.f101), (103, Tryz.f103), (104, Tryz.f104), (105, Tryz.f105), (107, Tryz.f107), (108, Tryz.f108), (109, Tryz.f109), (110, Tryz.f110), (111, Tryz.f111), (112, Tryz.f112), (113, Tryz.f113), (114, Tryz.f114), (115, Tryz.f115), (120, Tryz.f120), (121, Tryz.f121), (124, Tryz.f124), (125, Tryz.f125), (126, Tryz.f126), (127, Tryz.f127), (128, Tryz.f128), (129, Tryz.f129), (130, Tryz.f130), (131, Tryz.f131), (132, Tryz.f132), (133, Tryz.f133), (134, Tryz.f134), (135, Tryz.f135), (136, Tryz.f136), (137, Tryz.f137), (144, Tryz.f144), (151, Tryz.f151), (155, Tryz.f155), (156, Tryz.f156), (157, Tryz.f157), (158, Tryz.f158), (159, Tryz.f159), (160, Tryz.f160), (161, Tryz.f161), (162, Tryz.f162), (163, Tryz.f163), (165, Tryz.f165), (166, Tryz.f166), (167, Tryz.f167), (168, Tryz.f168), (169, Tryz.f169), (170, Tryz.f170), (171, Tryz.f171), (172, Tryz.f172), (173, Tryz.f173), (174, Tryz.f174), (175, Tryz.f175), (176, Tryz.f176), (177, Tryz.f177), (178, Tryz.f178), (179, Tryz.f179), (180, Tryz.f180), (181, Tryz.f181), (182, Tryz.f182), (184, Tryz.f184), (185, Tryz.f185), (212, Tryz.f212), (213, Tryz.f213), (214, Tryz.f214), (215, Tryz.f215), (102, Tryz.f102), (106, Tryz.f106), (122, Tryz.f122), (123, Tryz.f123)]
def inls : List Nat := [102, 106, 122, 123]
noncomputable def ptsL : List (Nat × List Ty) := [(3, [(.pair .bool (.pair .str .str))]), (4, [.str]), (5, [.str, (.pair (.int .i64) (.pair (.pair .bool (.pair .str .str)) (.pair .str (.pair .bool (.int .i64)))))]), (6, [(.pair .bool (.pair .str .str)), .str, (.int .i64), (.pair (.int .i64) (.pair (.pair .bool (.pair .str .str)) (.pair .str (.pair .bool (.int .i64)))))]), (8, [(.pair .bool (.pair .str .str)), (.pair .bool (.pair .str .str))]), (9, [(.pair (.int .i64) (.pair (.pair .bool (.pair .str .str)) (.pair .str (.pair .bool (.int .i64)))))]), (10, [.str, (.int .i64)]), (11, [(.pair .bool (.pair .str .str))]), (12, [(.pair .bool (.pair .str .str))]), (13, [(.pair .bool (.pair .str .str))]), (14, [(.pair .bool (.pair .str .str))]), (15, [(.pair .bool (.pair .str .str))]), (16, [(.pair .bool (.pair .str .str))]), (17, [.str]), (18, [.str]), (19, [(.pair .bool (.pair .str .str))]), (20, [(.pair .bool (.pair .str .str))]), (21, []), (22, [.str]), (23, [.str]), (24, []), (25, [.str]), (26, [.str]), (27, [(.pair (.int .i64) (.pair (.pair .bool (.pair .str .str)) (.pair .str (.pair .bool (.int .i64)))))]), (28, [(.pair (.int .i64) (.pair (.pair .bool (.pair .str .str)) (.pair .str (.pair .bool (.int .i64)))))]), (29, [(.pair (.int .i64) (.pair (.pair .bool (.pair .str .str)) (.pair .str (.pair .bool (.int .i64)))))]), (30, [.str]), (31, [.str]), (32, [(.pair .bool (.pair .str .str))]), (33, [(.pair .bool (.pair .str .str))]), (34, [.str]), (35, [.str]), (36, [.bool]), (37, [.bool]), (38, [(.int .i64)]), (39, [(.int .i64)]), (40, [(.pair .bool (.pair .str .str)), (.int .i64)]), (41, [(.pair .bool (.pair .str .str)), (.int .i64)]), (42, [(.int .i64)]), (43, [(.int .i64)]), (44, [(.pair (.int .i64) (.pair (.pair .bool (.pair .str .str)) (.pair .str (.pair .bool (.int .i64)))))]), (45, [(.pair (.int .i64) (.pair (.pair .bool (.pair .str .str)) (.pair .str (.pair .bool (.int .i64)))))]), (46, [(.pair (.int .i64) (.pair (.pair .bool (.pair .str .str)) (.pair .str (.pair .bool (.int .i64)))))]), (47, [(.pair (.int .i64) (.pair (.pair .bool (.pair .str .str)) (.pair .str (.pair .bool (.int .i64))))), (.pair (.int .i64) (.pair (.pair .bool (.pair .str .str)) (.pair .str (.pair .bool (.int .i64)))))]), (49, [(.sl (.pair (.int .i64) (.pair (.pair .bool (.pair .str .str)) (.pair .str (.pair .bool (.int .i64))))))]), (51, []), (52, [(.pair .bool (.pair .str .str)), (.pair .bool (.pair .str .str))]), (53, [(.pair (.int .i64) (.pair (.pair .bool (.pair .str .str)) (.pair .str (.pair .bool (.int .i64)))))]), (54, [(.pair (.int .i64) (.pair (.pair .bool (.pair .str .str)) (.pair .str (.pair .bool (.int .i64)))))]), (55, [(.pair (.int .i64) (.pair (.pair .bool (.pair .str .str)) (.pair .str (.pair .bool (.int .i64)))))]), (56, [(.pair (.int .i64) (.pair (.pair .bool (.pair .str .str)) (.pair .str (.pair .bool (.int .i64)))))]), (57, [(.pair (.int .i64) (.pair (.pair .bool (.pair .str .str)) (.pair .str (.pair .bool (.int .i64)))))]), (58, [(.pair (.int .i64) (.pair (.pair .bool (.pair .str .str)) (.pair .str (.pair .bool (.int .i64)))))]), (59, []), (60, [.str, (.int .i64)]), (61, [.str, (.int .i64)]), (62, [.str]), (63, [.str]), (64, [(.sl (.pair (.int .i64) (.pair .str (.pair (.int .i64) (.pair .bool (.pair .str .str)))))), (.sl (.pair (.int .i64) (.pair .str (.pair (.int .i64) (.pair .bool (.pair .str .str))))))]), (65, [(.sl (.pair (.int .i64) (.pair .str (.pair (.int .i64) (.pair .bool (.pair .str .str))))))]), (66, [(.pair .bool (.pair .str .str))]), (67, [.str]), (68, [.str, .str]), (69, [.str, .str]), (70, [(.int .u64), (.int .i64)]), (71, [.str, (.int .i64)]), (72, [(.pair .bool .str), (.pair .bool .str)]), (73, [.bool, .str]), (74, [(.pair .bool (.pair .str .str))]), (75, [.str, (.int .i64)]), (76, [.str]), (77, [.str, .str]), (78, [(.pair .bool (.pair .str .str))]), (79, [.str]), (80, [.str]), (81, [(.pair .bool (.pair .str .str))]), (82, [.str, .str]), (83, [.str, .str]), (84, [.str, .str]), (85, [(.pair .bool (.pair .str .str))]), (86, [.str]), (87, [.str]), (88, [(.pair .bool .str), (.pair .bool .str)]), (89, [.bool, .str]), (90, [(.pair .bool (.pair .str .str))]), (91, []), (92, [.str, (.int .u8)]), (93, [.str, .str]), (94, [(.pair .bool (.pair .str .str))]), (95, [.str]), (96, [.str]), (97, [(.pair .bool .str), (.pair .bool .str)]), (98, [(.int .i64)]), (99, [.str]), (100, [.str]), (101, [.str, .str]), (103, [(.pair .bool (.pair .str .str))]), (104, [(.int .i64)]), (105, []), (107, [(.pair (.int .i64) (.pair (.pair .bool (.pair .str .str)) (.pair .str (.pair .bool (.int .i64)))))]), (108, [(.pair (.int .i64) (.pair (.pair .bool (.pair .str .str)) (.pair .str (.pair .bool (.int .i64))))), (.int .i64)]), (109, [(.int .i64), (.int .i64)]), (110, [(.pair .bool (.pair .str .str)), (.pair .bool (.pair .str .str))]), (111, [(.sl (.int .i64))]), (112, [.str, .str]), (113, [(.int .i64), (.int .i64)]), (114, [.bool]), (115, [(.pair (.int .i64) (.pair (.pair .bool (.pair .str .str)) (.pair .str (.pair .bool (.int .i64)))))]), (120, [(.pair .bool .str), (.pair .bool .str)]), (121, [(.pair .bool (.pair .str .str))]), (124, [(.int .u8)]), (125, [.str, (.int .i64)]), (126, [.str, (.int .i64)]), (127, [.str, (.int .i64)]), (128, [(.int .u8)]), (129, [.str]), (130, [(.int .u8)]), (131, [.str, (.int .i64)]), (132, [.str, (.int .i64)]), (133, [.str, (.int .i64)]), (134, [(.int .u8)]), (135, [(.int .u8)]), (136, [.str]), (137, [(.int .u64)]), (144, [.str, .str]), (151, [.str, (.int .i64)]), (155, [(.pair .bool .str)]), (156, [.str, .str]), (157, [.str]), (158, [.str, (.int .i64)]), (159, [.str, .str]), (160, [.str]), (161, [.str, (.int .u64)]), (162, [.str, .str]), (163, [.str, .str]), (165, [(.pair .bool (.pair .str .str))]), (166, [.str]), (167, [.str, .str]), (168, [.str, .str]), (169, [.str, .str]), (170, [.str, .str]), (171, [(.int .u64)]), (172, [.str]), (173, [(.int .i64)]), (174, [.str, .str]), (175, [.str]), (176, [(.int .i64)]), (177, [(.int .i64)]), (178, [(.pair .bool .str), (.pair .bool .str)]), (179, [(.pair .bool (.pair .str .str)), (.pair .bool (.pair .str .str))]), (180, [.str]), (181, [(.int .i64)]), (182, [.str, .str]), (184, [.str, (.int .i64)]), (185, [(.int .u8)]), (212, [(.pair .bool .str)]), (213, [(.pair .bool (.pair .str .str))]), (214, [(.pair .bool .str), (.pair .bool .str)]), (215, [(.pair .bool (.pair .str .str))])]
noncomputable def rtsL : List (Nat × List Ty) := [(3, [.bool]), (4, [.bool]), (5, [.bool]), (6, [.bool]), (8, [.bool]), (9, [.bool]), (10, [.bool]), (11, [.str]), (12, [.str, .bool]), (13, [.str, .bool]), (14, [(.int .i64), .bool]), (15, [(.int .i64), .bool]), (16, [.str]), (17, [(.pair .bool (.pair .str .str)), (.int .i64)]), (18, [(.pair .bool (.pair .str .str)), (.int .i64)]), (19, [(.pair .bool (.pair .str .str))]), (20, [(.pair .bool (.pair .str .str))]), (21, [.bool]), (22, [(.pair .bool (.pair .str .str)), (.int .i64)]), (23, [(.pair .bool (.pair .str .str)), (.int .i64)]), (24, [.bool]), (25, [(.pair (.int .i64) (.pair (.pair .bool (.pair .str .str)) (.pair .str (.pair .bool (.int .i64))))), (.int .i64)]), (26, [(.pair (.int .i64) (.pair (.pair .bool (.pair .str .str)) (.pair .str (.pair .bool (.int .i64))))), (.int .i64)]), (27, [.str, (.int .i64)]), (28, [.str, (.int .i64)]), (29, [.bool]), (30, [(.int .i64), .bool]), (31, [(.int .i64), .bool]), (32, [(.pair (.int .i64) (.pair (.pair .bool (.pair .str .str)) (.pair .str (.pair .bool (.int .i64)))))]), (33, [(.pair (.int .i64) (.pair (.pair .bool (.pair .str .str)) (.pair .str (.pair .bool (.int .i64)))))]), (34, [(.pair (.int .i64) (.pair (.pair .bool (.pair .str .str)) (.pair .str (.pair .bool (.int .i64)))))]), (35, [(.pair (.int .i64) (.pair (.pair .bool (.pair .str .str)) (.pair .str (.pair .bool (.int .i64)))))]), (36, [(.pair (.int .i64) (.pair (.pair .bool (.pair .str .str)) (.pair .str (.pair .bool (.int .i64)))))]), (37, [(.pair (.int .i64) (.pair (.pair .bool (.pair .str .str)) (.pair .str (.pair .bool (.int .i64)))))]), (38, [(.pair (.int .i64) (.pair (.pair .bool (.pair .str .str)) (.pair .str (.pair .bool (.int .i64)))))]), (39, [(.pair (.int .i64) (.pair (.pair .bool (.pair .str .str)) (.pair .str (.pair .bool (.int .i64)))))]), (40, [(.pair (.int .i64) (.pair (.pair .bool (.pair .str .str)) (.pair .str (.pair .bool (.int .i64)))))]), (41, [(.pair (.int .i64) (.pair (.pair .bool (.pair .str .str)) (.pair .str (.pair .bool (.int .i64)))))]), (42, [.str]), (43, [.str]), (44, [.bool]), (45, [.str]), (46, [.str]), (47, [(.int .i64), (.int .i64)]), (49, [(.int .i64)]), (51, [.bool]), (52, [(.int .i64)]), (53, [(.pair .bool (.pair .str .str)), (.int .i64)]), (54, [(.pair .bool (.pair .str .str)), (.int .i64)]), (55, [.str, (.int .i64)]), (56, [.str, (.int .i64)]), (57, [.bool, (.int .i64)]), (58, [.bool, (.int .i64)]), (59, [.bool]), (60, [(.pair (.int .i64) (.pair .str (.pair (.int .i64) (.pair .bool (.pair .str .str))))), (.int .i64), (.int .i64)]), (61, [(.pair (.int .i64) (.pair .str (.pair (.int .i64) (.pair .bool (.pair .str .str))))), (.int .i64), (.int .i64)]), (62, [(.sl (.pair (.int .i64) (.pair .str (.pair (.int .i64) (.pair .bool (.pair .str .str)))))), (.int .i64), (.int .i64)]), (63, [(.sl (.pair (.int .i64) (.pair .str (.pair (.int .i64) (.pair .bool (.pair .str .str)))))), (.int .i64), (.int .i64)]), (64, [.bool]), (65, [(.sl (.pair (.int .i64) (.pair .str (.pair (.int .i64) (.pair .bool (.pair .str .str))))))]), (66, [(.pair .bool (.pair .str .str))]), (67, [.str]), (68, [.str, .str, (.int .i64)]), (69, [.str]), (70, [.str]), (71, [.str]), (72, [(.pair .bool .str)]), (73, [(.pair .bool .str)]), (74, [(.pair .bool .str)]), (75, [.str]), (76, [.str]), (77, [.str]), (78, [(.pair .bool .str)]), (79, [(.int .i64), (.int .i64)]), (80, [(.int .i64), (.int .i64)]), (81, [(.int .i64)]), (82, [.str, .bool]), (83, [.str, .str, .bool]), (84, [(.pair .bool (.pair .str .str)), (.int .i64)]), (85, [(.pair .bool (.pair .str .str))]), (86, [.bool]), (87, [.str, (.int .i64)]), (88, [(.pair .bool (.pair .str .str)), (.int .i64)]), (89, [(.pair .bool .str)]), (90, [.bool]), (91, [(.pair .bool (.pair .str .str))]), (92, [(.int .i64)]), (93, [(.pair .bool (.pair .str .str)), (.int .i64)]), (94, [(.pair .bool (.pair .str .str))]), (95, [.bool]), (96, [.str, (.int .i64)]), (97, [(.pair .bool (.pair .str .str)), (.int .i64)]), (98, [(.pair .bool (.pair .str .str))]), (99, [.bool]), (100, [.bool]), (101, [.bool]), (103, [.bool]), (104, [(.pair .bool (.pair .str .str))]), (105, [(.sl .str)]), (107, [(.int .i64)]), (108, [(.pair (.int .i64) (.pair (.pair .bool (.pair .str .str)) (.pair .str (.pair .bool (.int .i64)))))]), (109, [(.int .i64)]), (110, [(.int .i64)]), (111, [(.int .i64)]), (112, [(.int .i64)]), (113, [(.int .i64)]), (114, [(.int .i64)]), (115, [(.int .i64)]), (120, [(.int .i64)]), (121, [(.int .i64)]), (124, [.bool]), (125, [(.pair (.int .i64) (.pair .str (.pair (.int .i64) (.pair .bool (.pair .str .str))))), (.int .i64), (.int .i64)]), (126, [(.pair (.int .i64) (.pair .str (.pair (.int .i64) (.pair .bool (.pair .str .str))))), (.int .i64), (.int .i64)]), (127, [(.pair (.int .i64) (.pair .str (.pair (.int .i64) (.pair .bool (.pair .str .str))))), (.int .i64), (.int .i64)]), (128, [.bool]), (129, [(.int .i64), (.int .i64)]), (130, [.bool]), (131, [(.pair (.int .i64) (.pair .str (.pair (.int .i64) (.pair .bool (.pair .str .str))))), (.int .i64), (.int .i64)]), (132, [(.pair (.int .i64) (.pair .str (.pair (.int .i64) (.pair .bool (.pair .str .str))))), (.int .i64), (.int .i64)]), (133, [(.pair (.int .i64) (.pair .str (.pair (.int .i64) (.pair .bool (.pair .str .str))))), (.int .i64), (.int .i64)]), (134, [.bool]), (135, [(.int .i64)]), (136, [.str]), (137, [.str]), (144, [(.int .i64)]), (151, [.str, (.int .i64)]), (155, [(.pair .bool .str)]), (156, [.str]), (157, [.str]), (158, [.str, (.int .i64)]), (159, [.str, .str, (.int .i64)]), (160, [(.int .u64), .bool]), (161, [(.int .i64)]), (162, [(.int .i64)]), (163, [.str, .bool]), (165, [(.pair .bool (.pair .str .str))]), (166, [.bool]), (167, [.str]), (168, [.str]), (169, [.str]), (170, [.str]), (171, [.str]), (172, [(.int .i64)]), (173, [(.pair .bool .str)]), (174, [.bool]), (175, [.bool]), (176, [(.pair .bool .str)]), (177, [.bool]), (178, [(.int .i64)]), (179, [(.pair .bool .str), (.pair .bool .str)]), (180, [.bool]), (181, [.bool]), (182, [(.int .i64)]), (184, [(.int .i64)]), (185, [.bool]), (212, [(.pair .bool .str)]), (213, [(.pair .bool .str)]), (214, [(.pair .bool .str)]), (215, [(.pair .bool .str)])]
noncomputable def annL : List (Nat × List (Nat × Path × Ann)) := [
  (3, [(3, [1, 0, 1, 1, 1, 1, 1, 1], { live := [(1, .keep), (3, .keep), (4, .keep), (5, .keep), (66, .keep)], toks := [(16, [.keep, .keep, .keep])] })]),
  (5, [(5, [1, 0, 1, 1, 1, 1, 1, 1], { live := [(3, .keep), (9, .keep), (12, .keep), (65, .keep)], toks := [(48, [.keep, .keep, .keep, .keep, .keep, .keep, .keep])] })]),
  (9, [(9, [1, 0, 1], { live := [(1, .keep), (34, .keep)], toks := [(16, [.keep, .keep, .keep, .keep, .keep, .keep, .keep])] }),
    (9, [1, 0, 1, 1, 1, 1, 1, 1, 1, 1], { live := [(1, .keep), (7, .keep), (10, .keep), (93, .keep)], toks := [(16, [.keep, .keep, .keep, .keep, .keep, .keep, .keep])] }),
    (9, [1, 0, 1, 1, 1, 1, 1, 1, 1, 1, 1], { live := [(1, .keep), (7, .keep), (100, .keep)], toks := [(16, [.keep, .keep, .keep, .keep, .keep, .keep, .keep])] })]),
  (10, [(10, [1, 0, 1, 1, 1, 1], { live := [(0, .keep), (47, .keep)], toks := [] })]),
  (11, [(11, [1, 1, 0, 1, 1, 1, 1], { live := [(1, .keep), (3, .keep), (21, .keep)], toks := [(16, [.keep, .keep, .keep])] }),
    (11, [1, 1, 1, 1], { live := [(1, .keep), (3, .keep)], toks := [(16, [.keep, .keep, .keep])] })]),
  (13, [(13, [0, 0, 1, 1, 1, 1, 1], { live := [(4, .keep), (7, .keep)], toks := [] })]),
  (16, [(16, [1, 0, 1, 1, 1, 1], { live := [(1, .keep), (3, .keep), (21, .keep)], toks := [(16, [.keep, .keep, .keep])] }),
    (16, [1, 1, 1], { live := [(1, .keep), (3, .keep)], toks := [(16, [.keep, .keep, .keep])] })]),
  (17, [(17, [1, 1, 1, 1, 1, 1, 1], { live := [(2, .keep), (8, .keep), (9, .keep)], toks := [(32, [.keep, .keep, .keep]), (128, [.keep, .keep, .keep])] }),
    (17, [1, 0, 1, 1, 1, 1, 1, 1], { live := [(2, .keep), (8, .keep), (9, .keep), (37, .keep)], toks := [(32, [.keep, .keep, .keep]), (128, [.keep, .keep, .keep])] }),
    (17, [1, 1, 1, 1, 1, 1], { live := [(2, .keep), (4, .keep), (8, .keep), (9, .keep)], toks := [(32, [.keep, .keep, .keep]), (128, [.keep, .keep, .keep])] })]),
  (18, [(18, [1, 0, 0, 1, 1], { live := [(0, .keep), (2, .keep), (4, .keep), (5, .keep), (15, .keep)], toks := [(32, [.keep, .keep, .keep])] })]),
  (22, [(22, [1, 1, 1, 1, 1, 1, 1], { live := [(2, .keep), (5, .keep), (6, .keep)], toks := [(32, [.keep, .keep, .keep]), (80, [.keep, .keep, .keep])] }),
    (22, [1, 0, 1, 1, 1, 1, 1, 1], { live := [(2, .keep), (5, .keep), (6, .keep), (43, .keep)], toks := [(32, [.keep, .keep, .keep]), (80, [.keep, .keep, .keep])] }),
    (22, [1, 1, 1, 1, 1, 1], { live := [(2, .keep), (4, .keep), (5, .keep), (6, .keep)], toks := [(32, [.keep, .keep, .keep]), (80, [.keep, .keep, .keep])] }),
    (22, [1, 1, 1], { live := [(0, .keep), (2, .keep), (4, .keep)], toks := [(32, [.keep, .keep, .keep])] }),
    (22, [1, 1], { live := [(0, .keep), (2, .keep), (4, .keep)], toks := [(32, [.keep, .keep, .keep])] })]),
  (23, [(23, [1, 0, 1, 1, 1, 1, 1], { live := [(0, .keep), (2, .keep), (5, .keep), (6, .keep), (32, .keep)], toks := [(32, [.keep, .keep, .keep])] }),
    (23, [1, 1, 1, 1, 1], { live := [(0, .keep), (2, .keep), (4, .keep), (5, .keep), (6, .keep)], toks := [(32, [.keep, .keep, .keep])] })]),
  (25, [(25, [1, 1, 1, 0, 1, 0, 1, 1], { live := [(0, .keep), (2, .keep), (16, .keep)], toks := [(32, [.keep, .keep, .keep, .keep, .keep, .keep, .keep])] })]),
  (26, [(26, [1, 0, 1, 1, 1], { live := [(0, .keep), (2, .keep), (20, .keep)], toks := [(32, [.keep, .keep, .keep, .keep, .keep, .keep, .keep])] }),
    (26, [1, 1, 1, 1, 1, 1, 1, 1, 1], { live := [(0, .keep), (2, .keep)], toks := [(32, [.keep, .keep, .keep, .keep, .keep, .keep, .keep])] })]),
  (27, [(27, [1, 1, 0, 1, 1, 1, 1], { live := [(4, .keep), (31, .keep)], toks := [] })]),
  (28, [(28, [1, 0, 1, 1, 1, 1], { live := [(4, .keep), (38, .keep)], toks := [] })]),
  (30, [(30, [1000000, 0, 0, 1], { live := [(0, .keep)], toks := [] }),
    (30, [0, 1, 0, 1], { live := [(0, .keep), (6, .keep), (7, .keep)], toks := [] }),
    (30, [1, 1, 0, 0, 1, 1, 0, 0, 1, 0, 1], { live := [(0, .keep), (4, .keep), (6, .keep), (7, .keep), (17, .keep)], toks := [] })]),
  (31, [(31, [0, 1, 0, 1], { live := [(0, .keep), (4, .keep)], toks := [] })]),
  (32, [(32, [1, 1], { live := [(1, .keep), (2, .keep)], toks := [(16, [.keep, .keep, .keep]), (32, [.keep, .keep, .keep, .keep, .keep, .keep, .keep])] })]),
  (38, [(38, [1, 1], { live := [(0, .keep), (2, .keep)], toks := [(32, [.keep, .keep, .keep, .keep, .keep, .keep, .keep])] })]),
  (39, [(39, [1, 0, 1], { live := [(0, .keep), (2, .keep), (8, .keep)], toks := [(32, [.keep, .keep, .keep, .keep, .keep, .keep, .keep])] }),
    (39, [1, 1], { live := [(0, .keep), (2, .keep)], toks := [(32, [.keep, .keep, .keep, .keep, .keep, .keep, .keep])] })]),
  (42, [(42, [1000000, 0, 1], { live := [(0, .keep)], toks := [] }),
    (42, [1, 0, 1, 1], { live := [(0, .keep), (3, .keep), (10, .keep)], toks := [(48, [.keep, .keep, .keep, .keep, .keep, .keep, .keep, .keep])] })]),
  (43, [(43, [1, 0, 1], { live := [(0, .keep), (8, .keep)], toks := [] })]),
  (47, [(47, [1000004, 0, 0, 1], { live := [(2, .keep), (3, .keep)], toks := [] }),
    (47, [1, 0, 1], { live := [(2, .keep), (3, .keep), (6, .keep)], toks := [(32, [.keep, .keep, .keep, .keep, .keep, .keep, .keep]), (48, [.keep, .keep, .keep, .keep, .keep, .keep, .keep])] })]),
  (49, [(49, [0, 1, 0, 1], { live := [(6, .im (.sl (.pair (.int .i64) (.pair (.pair .bool (.pair .str .str)) (.pair .str (.pair .bool (.int .i64))))))), (7, .keep), (8, .keep)], toks := [] })]),
  (57, [(57, [1, 1, 0, 0, 1, 1, 1, 0, 1, 0, 1, 1], { live := [(1, .keep), (34, .keep)], toks := [(16, [.keep, .keep, .keep, .keep, .keep, .keep, .keep])] })]),
  (58, [(58, [1, 0, 0, 1, 1, 1, 0, 1, 1, 1], { live := [(1, .keep), (28, .keep)], toks := [(16, [.keep, .keep, .keep, .keep, .keep, .keep, .keep])] })]),
  (60, [(60, [1, 0, 1, 1, 1, 0, 1], { live := [(0, .keep), (1, .keep), (4, .keep), (7, .keep), (9, .keep), (18, .keep)], toks := [(64, [.keep, .keep, .keep, .keep, .keep, .keep]), (112, [.keep, .keep, .keep, .keep, .keep, .keep])] }),
    (60, [1000003, 0, 1, 1, 1, 1, 0, 1], { live := [(0, .keep), (4, .keep), (7, .keep), (9, .keep), (20, .keep)], toks := [] }),
    (122, [0, 0, 1, 1], { live := [(0, .keep), (1, .keep), (2, .keep), (7, .keep)], toks := [(64, [.keep, .keep, .keep, .keep, .keep, .keep]), (112, [.keep, .keep, .keep, .keep, .keep, .keep])] }),
    (122, [1000013, 0, 0, 0, 0, 0, 1, 1], { live := [(0, .keep), (1, .keep), (2, .keep), (7, .keep), (14, .keep)], toks := [] }),
    (60, [1, 1, 1, 1, 1, 1, 1, 0, 1], { live := [(1, .keep), (4, .keep), (7, .keep), (8, .keep), (9, .keep)], toks := [(64, [.keep, .keep, .keep, .keep, .keep, .keep]), (112, [.keep, .keep, .keep, .keep, .keep, .keep])] }),
    (60, [1000002, 0, 0, 1, 1, 1, 1, 1, 1, 1, 0, 1, 0, 1, 1, 1, 1, 1, 1, 0, 1], { live := [(0, .keep), (1, .keep), (4, .keep), (7, .keep), (9, .keep)], toks := [] }),
    (60, [2, 1], { live := [(1, .keep), (4, .keep), (7, .keep), (8, .keep), (9, .keep)], toks := [(64, [.keep, .keep, .keep, .keep, .keep, .keep]), (112, [.keep, .keep, .keep, .keep, .keep, .keep])] }),
    (122, [1, 0, 0, 0, 0, 1, 1], { live := [(0, .keep), (1, .keep), (2, .keep), (7, .keep), (22, .keep)], toks := [(64, [.keep, .keep, .keep, .keep, .keep, .keep]), (112, [.keep, .keep, .keep, .keep, .keep, .keep])] })]),
  (61, [(61, [1, 0, 1], { live := [(0, .keep), (1, .keep), (4, .keep), (17, .keep)], toks := [(64, [.keep, .keep, .keep, .keep, .keep, .keep])] }),
    (61, [0, 0, 1, 1], { live := [(0, .keep), (1, .keep), (4, .keep)], toks := [(64, [.keep, .keep, .keep, .keep, .keep, .keep])] }),
    (61, [0, 0, 1, 0, 1, 0, 1, 1, 1, 1, 1, 1, 1, 1], { live := [(0, .keep), (1, .keep), (4, .keep), (8, .keep)], toks := [(64, [.keep, .keep, .keep, .keep, .keep, .keep])] }),
    (61, [1, 0, 1, 1, 1, 1, 1, 1, 1, 1, 1], { live := [(0, .keep), (1, .keep), (4, .keep), (7, .keep), (115, .keep)], toks := [(64, [.keep, .keep, .keep, .keep, .keep, .keep])] }),
    (61, [1, 0, 0, 0, 0, 1, 1], { live := [(0, .keep), (1, .keep), (4, .keep), (28, .keep)], toks := [(64, [.keep, .keep, .keep, .keep, .keep, .keep])] }),
    (61, [1, 0, 0, 0, 0, 1, 0, 1, 0, 1, 1, 1, 1, 1, 1, 1, 1], { live := [(0, .keep), (1, .keep), (4, .keep), (8, .keep), (77, .keep)], toks := [(64, [.keep, .keep, .keep, .keep, .keep, .keep])] })]),
  (62, [(62, [0, 1, 1, 1, 1], { live := [(0, .keep), (5, .own 1099511627776 (.pair (.int .i64) (.pair .str (.pair (.int .i64) (.pair .bool (.pair .str .str)))))), (6, .keep)], toks := [] })]),
  (63, [(63, [0, 1, 0, 1, 1, 1, 1], { live := [(0, .keep), (5, .own 1099511627777 (.pair (.int .i64) (.pair .str (.pair (.int .i64) (.pair .bool (.pair .str .str)))))), (6, .keep), (7, .keep)], toks := [] })]),
  (64, [(64, [0, 1, 0, 1, 1], { live := [(0, .im (.sl (.pair (.int .i64) (.pair .str (.pair (.int .i64) (.pair .bool (.pair .str .str))))))), (1, .im (.sl (.pair (.int .i64) (.pair .str (.pair (.int .i64) (.pair .bool (.pair .str .str))))))), (5, .keep)], toks := [] })]),
  (65, [(65, [0, 1, 0, 1, 1], { live := [(0, .im (.sl (.pair (.int .i64) (.pair .str (.pair (.int .i64) (.pair .bool (.pair .str .str))))))), (3, .own 1099511627778 (.pair (.int .i64) (.pair .str (.pair (.int .i64) (.pair .bool (.pair .str .str)))))), (4, .keep)], toks := [] })]),
  (76, [(76, [0, 1, 0, 1, 1, 1], { live := [(0, .keep), (3, .keep), (4, .keep)], toks := [] }),
    (76, [1, 0, 0, 0, 1, 0, 1, 1, 1], { live := [(0, .keep), (3, .keep), (4, .keep), (21, .keep)], toks := [] })]),
  (84, [(84, [1, 0, 0, 0, 0, 0, 0, 0, 0, 0, 0, 1, 1, 1], { live := [(4, .keep), (6, .keep), (7, .keep), (8, .keep), (9, .keep), (20, .keep)], toks := [(64, [.keep, .keep, .keep])] }),
    (84, [1, 0, 0, 1, 1, 1], { live := [(4, .keep), (6, .keep), (7, .keep), (8, .keep)], toks := [(64, [.keep, .keep, .keep])] })]),
  (85, [(85, [1, 1, 1], { live := [(1, .keep), (2, .keep)], toks := [(16, [.keep, .keep, .keep]), (32, [.keep, .keep, .keep])] })]),
  (86, [(86, [0, 1, 0, 1], { live := [(0, .keep), (6, .im (.sl (.int .u8))), (7, .keep), (8, .keep)], toks := [] }),
    (86, [1, 1, 0, 0, 1, 1, 0, 0, 1, 0, 1], { live := [(0, .keep), (6, .im (.sl (.int .u8))), (7, .keep), (8, .keep), (17, .keep)], toks := [] })]),
  (87, [(87, [1, 0, 0, 1], { live := [(0, .keep), (10, .keep)], toks := [] }),
    (87, [0, 0, 1, 1, 1], { live := [(0, .keep), (4, .keep)], toks := [] }),
    (87, [0, 1, 0, 1, 1, 0, 1, 0, 0, 0, 1, 1, 1], { live := [(0, .keep), (4, .keep), (5, .keep), (6, .keep), (7, .keep), (30, .im (.sl (.int .u8))), (31, .keep), (32, .keep)], toks := [] })]),
  (88, [(88, [1, 0, 1, 1, 1, 1], { live := [(2, .keep), (3, .keep), (4, .keep), (6, .keep), (7, .keep), (44, .keep)], toks := [(32, [.keep, .keep]), (48, [.keep, .keep]), (64, [.keep, .keep, .keep])] }),
    (88, [1, 1, 1, 1], { live := [(2, .keep), (3, .keep), (4, .keep), (6, .keep), (7, .keep)], toks := [(32, [.keep, .keep]), (48, [.keep, .keep]), (64, [.keep, .keep, .keep])] })]),
  (90, [(90, [1, 0, 1], { live := [(1, .keep), (33, .keep)], toks := [(16, [.keep, .keep, .keep])] })]),
  (92, [(92, [0, 1, 0, 1], { live := [(0, .keep), (1, .keep), (5, .keep)], toks := [] })]),
  (93, [(93, [1, 0, 1, 1, 1], { live := [(4, .keep), (6, .keep), (7, .keep), (8, .keep), (9, .keep), (25, .keep)], toks := [(64, [.keep, .keep, .keep])] }),
    (93, [1, 0, 1, 1, 1, 1], { live := [(4, .keep), (6, .keep), (8, .keep), (32, .keep)], toks := [(64, [.keep, .keep, .keep])] })]),
  (95, [(95, [0, 1, 0, 1], { live := [(0, .keep), (3, .keep)], toks := [] }),
    (95, [1, 0, 0, 1, 0, 0, 1, 0, 1], { live := [(0, .keep), (3, .keep), (19, .keep)], toks := [] })]),
  (96, [(96, [0, 1, 0, 1], { live := [(0, .keep), (4, .keep)], toks := [] }),
    (96, [1, 0, 0, 1, 0, 0, 1, 0, 1], { live := [(0, .keep), (4, .keep), (22, .keep)], toks := [] }),
    (96, [0, 1, 0, 1, 1, 1, 1, 1], { live := [(0, .keep), (5, .keep), (6, .keep)], toks := [] })]),
  (97, [(97, [1, 0, 1, 1, 1, 1, 1, 1, 1], { live := [(4, .keep), (6, .keep), (7, .keep), (9, .keep), (10, .keep), (45, .keep)], toks := [(64, [.keep, .keep, .keep]), (96, [.keep, .keep]), (112, [.keep, .keep])] })]),
  (99, [(99, [0, 1, 0, 1], { live := [(0, .keep), (6, .im (.sl (.int .u8))), (7, .keep), (8, .keep)], toks := [] }),
    (99, [1, 1, 0, 0, 1, 1, 0, 0, 1, 0, 1], { live := [(0, .keep), (6, .im (.sl (.int .u8))), (7, .keep), (8, .keep), (17, .keep)], toks := [] })]),
  (100, [(100, [0, 1, 0, 1, 1], { live := [(0, .keep), (3, .keep)], toks := [] }),
    (100, [1, 0, 0, 1, 0, 0, 1, 0, 1, 1], { live := [(0, .keep), (3, .keep), (22, .keep)], toks := [] })]),
  (103, [(103, [1, 0, 0, 1], { live := [(1, .keep), (3, .keep)], toks := [(16, [.keep, .keep, .keep])] })]),
  (111, [(111, [0, 1, 0, 1, 1], { live := [(3, .keep), (6, .im (.sl (.int .i64))), (7, .keep), (8, .keep)], toks := [] })]),
  (125, [(125, [1000002, 0, 1], { live := [(0, .keep), (1, .keep), (4, .keep)], toks := [] }),
    (122, [0, 0, 1, 1], { live := [(0, .keep), (1, .keep), (2, .keep), (7, .keep)], toks := [(64, [.keep, .keep, .keep, .keep, .keep, .keep])] }),
    (125, [1000005, 0, 0, 1, 1], { live := [(0, .keep), (1, .keep), (4, .keep), (7, .keep)], toks := [] }),
    (122, [1, 0, 0, 0, 0, 1, 1], { live := [(0, .keep), (1, .keep), (2, .keep), (7, .keep), (22, .keep)], toks := [(64, [.keep, .keep, .keep, .keep, .keep, .keep])] }),
    (125, [1, 1, 1], { live := [(0, .keep), (1, .keep), (4, .keep), (7, .keep)], toks := [(64, [.keep, .keep, .keep, .keep, .keep, .keep])] }),
    (125, [1, 1, 0, 1, 1], { live := [(0, .keep), (1, .keep), (4, .keep), (7, .keep), (8, .keep), (29, .keep)], toks := [(64, [.keep, .keep, .keep, .keep, .keep, .keep])] })]),
  (127, [(127, [0, 1, 0, 1, 1], { live := [(0, .keep), (1, .keep), (4, .keep), (7, .keep), (8, .keep)], toks := [(64, [.keep, .keep, .keep, .keep, .keep, .keep])] }),
    (127, [1, 1, 0, 0, 1, 0, 1, 1], { live := [(0, .keep), (1, .keep), (4, .keep), (7, .keep), (8, .keep)], toks := [(64, [.keep, .keep, .keep, .keep, .keep, .keep])] }),
    (127, [1, 1, 0, 0, 1, 0, 0, 1, 0, 1, 1], { live := [(0, .keep), (1, .keep), (4, .keep), (7, .keep), (8, .keep), (9, .keep), (27, .keep)], toks := [(64, [.keep, .keep, .keep, .keep, .keep, .keep])] })]),
  (129, [(129, [1, 1, 0, 0, 0, 1, 0, 1], { live := [(38, .keep)], toks := [] }),
    (129, [1, 0, 0, 0, 1, 0, 1], { live := [(0, .keep)], toks := [] }),
    (129, [1, 1, 1, 1, 1, 1, 1, 1, 0, 0, 0, 0, 0, 0, 0, 0, 0, 0, 0, 0, 0, 0, 0, 0, 0, 0, 1, 0, 1], { live := [(20, .keep)], toks := [] })]),
  (131, [(131, [1, 1, 1], { live := [(0, .keep), (1, .keep), (4, .keep), (7, .keep)], toks := [(64, [.keep, .keep, .keep, .keep, .keep, .keep])] }),
    (131, [1, 0, 1, 1], { live := [(0, .keep), (1, .keep), (4, .keep), (7, .keep), (30, .keep)], toks := [(64, [.keep, .keep, .keep, .keep, .keep, .keep])] })]),
  (132, [(132, [0, 1, 0, 1, 1], { live := [(0, .keep), (1, .keep), (4, .keep), (7, .keep), (8, .keep)], toks := [(64, [.keep, .keep, .keep, .keep, .keep, .keep])] }),
    (132, [1, 1, 0, 0, 1, 0, 1, 1], { live := [(0, .keep), (1, .keep), (4, .keep), (7, .keep), (8, .keep)], toks := [(64, [.keep, .keep, .keep, .keep, .keep, .keep])] }),
    (132, [1, 1, 1, 0, 0, 1, 0, 0, 1, 0, 1, 1], { live := [(0, .keep), (1, .keep), (4, .keep), (7, .keep), (8, .keep), (39, .keep)], toks := [(64, [.keep, .keep, .keep, .keep, .keep, .keep])] })]),
  (133, [(133, [0, 1, 0, 1, 1], { live := [(0, .keep), (1, .keep), (4, .keep), (7, .keep), (8, .keep)], toks := [(64, [.keep, .keep, .keep, .keep, .keep, .keep])] }),
    (133, [1, 1, 0, 0, 1, 0, 1, 1], { live := [(0, .keep), (1, .keep), (4, .keep), (7, .keep), (8, .keep)], toks := [(64, [.keep, .keep, .keep, .keep, .keep, .keep])] }),
    (133, [1, 1, 0, 0, 1, 0, 0, 1, 0, 1, 1], { live := [(0, .keep), (1, .keep), (4, .keep), (7, .keep), (8, .keep), (9, .keep), (40, .keep)], toks := [(64, [.keep, .keep, .keep, .keep, .keep, .keep])] })]),
  (135, [(135, [1, 1, 1, 1, 1, 1, 1, 1, 1, 1, 1, 0, 1, 1], { live := [(14, .keep)], toks := [] })]),
  (161, [(161, [0, 0, 1, 1], { live := [(0, .keep), (1, .keep), (5, .keep)], toks := [] }),
    (161, [1, 0, 1, 0, 1, 0, 0, 0, 1, 1], { live := [(1, .keep), (5, .keep), (6, .keep), (24, .keep)], toks := [] })]),
  (162, [(162, [0, 1, 0, 1, 1], { live := [(0, .keep), (1, .keep), (5, .keep), (6, .keep)], toks := [] }),
    (162, [1, 0, 0, 0, 1, 0, 1, 1], { live := [(0, .keep), (1, .keep), (5, .keep), (6, .keep), (15, .keep)], toks := [] })]),
  (166, [(166, [0, 1, 0, 1], { live := [(6, .im (.sl (.int .u8))), (7, .keep), (8, .keep)], toks := [] }),
    (166, [1, 1, 0, 0, 1, 1, 0, 0, 1, 0, 1], { live := [(6, .im (.sl (.int .u8))), (7, .keep), (8, .keep), (17, .keep)], toks := [] })]),
  (178, [(178, [1, 0, 0, 1, 1, 1], { live := [(2, .keep), (3, .keep), (5, .keep), (15, .keep)], toks := [(32, [.keep, .keep]), (48, [.keep, .keep])] })]),
  (184, [(184, [0, 0, 1], { live := [(0, .keep), (1, .keep)], toks := [] }),
    (184, [1, 0, 0, 0, 0, 1], { live := [(0, .keep), (1, .keep), (14, .keep)], toks := [] })])]
noncomputable def extL : List ((j : Nat) × (den (tyL ((look ptsL j).getD [])) → Option (den (tyL ((look rtsL j).getD []))))) := [⟨67, Q.decQ⟩, ⟨68, Q.divQ⟩, ⟨69, Q.mulQ⟩, ⟨71, repeatF⟩, ⟨83, cutF⟩, ⟨126, Q.lexQ⟩, ⟨136, Q.trimQ⟩, ⟨137, Q.ofQ⟩, ⟨144, Q.cmpQ⟩, ⟨151, Q.powQ⟩, ⟨156, Q.mulQ⟩, ⟨157, Q.trimQ⟩, ⟨158, Q.powQ⟩, ⟨159, Q.divQ⟩, ⟨160, Q.smallQ⟩, ⟨167, Q.addQ⟩, ⟨168, Q.gcdQ⟩, ⟨169, Q.gcdQ⟩, ⟨170, Q.addQ⟩, ⟨171, Q.ofQ⟩, ⟨172, Q.bitsQ⟩, ⟨182, Q.cmpQ⟩]
noncomputable def CT : Ctx where
  ti := look tis
  fn := look fns
  disp := fun _ f _ => match inls.elem f with
    | true => .inl
    | false => .spec f
  fid := fun i => i
  pts := fun i => (look ptsL i).getD []
  rts := fun i => (look rtsL i).getD []
  ext := lookE extL
  ann := fun i f p => match look annL i with
    | some l => lookP l f p
    | none => none
  inv := Inv
noncomputable abbrev abacistlaw07_NumtextTells (x0 : Bool × List UInt8 × List UInt8) : Option (Bool) := (top CT).callF 3 (x0)
noncomputable abbrev abacistlaw07_NumtextTells_1 (a1 : List UInt8) (a2 : List UInt8) (a3 : Bool) (a4 : Bool) (a5 : Bool × List UInt8 × List UInt8) : Option (Bool) := (top CT).stage 3 [] 3 [1, 0, 1, 1, 1, 1, 1, 1] { env := [(1, (.ptr 16 0)), (3, (.str a1)), (4, (.str a2)), (5, (.bool a3)), (66, (.bool a4))], heap := [(16, .box [(.bool a5.1), (.str a5.2.1), (.str a5.2.2)])], salt := 0 }
noncomputable abbrev abacistlaw07_NumtextParse (x0 : List UInt8) : Option (Bool) := (top CT).callF 4 (x0)
noncomputable abbrev abacistlaw08_ValueLiterals (x0 : List UInt8) (x1 : Int × (Bool × List UInt8 × List UInt8) × List UInt8 × Bool × Int) : Option (Bool) := (top CT).callF 5 (x0, x1)
noncomputable abbrev abacistlaw08_ValueLiterals_1 (a1 : List UInt8) (a2 : Int) (a3 : Bool) (a4 : Int × (Bool × List UInt8 × List UInt8) × List UInt8 × Bool × Int) : Option (Bool) := (top CT).stage 5 [] 5 [1, 0, 1, 1, 1, 1, 1, 1] { env := [(3, (.ptr 48 0)), (9, (.str a1)), (12, (.int .i64 a2)), (65, (.bool a3))], heap := [(48, .box [(.int .i64 a4.1), (.bool a4.2.1.1), (.str a4.2.1.2.1), (.str a4.2.1.2.2), (.str a4.2.2.1), (.bool a4.2.2.2.1), (.int .i64 a4.2.2.2.2)])], salt := 0 }
noncomputable abbrev abacistlaw08_ValueMakes (x0 : Bool × List UInt8 × List UInt8) (x1 : List UInt8) (x2 : Int) (x3 : Int × (Bool × List UInt8 × List UInt8) × List UInt8 × Bool × Int) : Option (Bool) := (top CT).callF 6 (x0, x1, x2, x3)
noncomputable abbrev abacistlaw09_CoerceNumbers (x0 : Bool × List UInt8 × List UInt8) (x1 : Bool × List UInt8 × List UInt8) : Option (Bool) := (top CT).callF 8 (x0, x1)
noncomputable abbrev abacistlaw09_CoerceOne (x0 : Int × (Bool × List UInt8 × List UInt8) × List UInt8 × Bool × Int) : Option (Bool) := (top CT).callF 9 (x0)
noncomputable abbrev abacistlaw09_CoerceOne_1 (a1 : Bool) (a2 : Int × (Bool × List UInt8 × List UInt8) × List UInt8 × Bool × Int) : Option (Bool) := (top CT).stage 9 [] 9 [1, 0, 1] { env := [(1, (.ptr 16 0)), (34, (.bool a1))], heap := [(16, .box [(.int .i64 a2.1), (.bool a2.2.1.1), (.str a2.2.1.2.1), (.str a2.2.1.2.2), (.str a2.2.2.1), (.bool a2.2.2.2.1), (.int .i64 a2.2.2.2.2)])], salt := 0 }
noncomputable abbrev abacistlaw09_CoerceOne_2 (a1 : List UInt8) (a2 : Int) (a3 : Bool) (a4 : Int × (Bool × List UInt8 × List UInt8) × List UInt8 × Bool × Int) : Option (Bool) := (top CT).stage 9 [] 9 [1, 0, 1, 1, 1, 1, 1, 1, 1, 1] { env := [(1, (.ptr 16 0)), (7, (.str a1)), (10, (.int .i64 a2)), (93, (.bool a3))], heap := [(16, .box [(.int .i64 a4.1), (.bool a4.2.1.1), (.str a4.2.1.2.1), (.str a4.2.1.2.2), (.str a4.2.2.1), (.bool a4.2.2.2.1), (.int .i64 a4.2.2.2.2)])], salt := 0 }
noncomputable abbrev abacistlaw09_CoerceOne_3 (a1 : List UInt8) (a2 : Bool) (a3 : Int × (Bool × List UInt8 × List UInt8) × List UInt8 × Bool × Int) : Option (Bool) := (top CT).stage 9 [] 9 [1, 0, 1, 1, 1, 1, 1, 1, 1, 1, 1] { env := [(1, (.ptr 16 0)), (7, (.str a1)), (100, (.bool a2))], heap := [(16, .box [(.int .i64 a3.1), (.bool a3.2.1.1), (.str a3.2.1.2.1), (.str a3.2.1.2.2), (.str a3.2.2.1), (.bool a3.2.2.2.1), (.int .i64 a3.2.2.2.2)])], salt := 0 }
noncomputable abbrev abacistlaw12_LexAll (x0 : List UInt8) (x1 : Int) : Option (Bool) := (top CT).callF 10 (x0, x1)
noncomputable abbrev abacistlaw12_LexAll_1 (a1 : List UInt8) (a2 : Bool) : Option (Bool) := (top CT).stage 10 [] 10 [1, 0, 1, 1, 1, 1] { env := [(0, (.str a1)), (47, (.bool a2))], heap := [], salt := 0 }
noncomputable abbrev numtext_Text (x0 : Bool × List UInt8 × List UInt8) : Option (List UInt8) := (top CT).callF 11 (x0)
noncomputable abbrev numtext_Text_1 (a1 : List UInt8) (a2 : Bool × List UInt8 × List UInt8) : Option (List UInt8) := (top CT).stage 11 [] 11 [1, 1, 1, 1] { env := [(1, (.ptr 16 0)), (3, (.str a1))], heap := [(16, .box [(.bool a2.1), (.str a2.2.1), (.str a2.2.2)])], salt := 0 }
noncomputable abbrev numtext_Text_2 (a1 : List UInt8) (a2 : Bool) (a3 : Bool × List UInt8 × List UInt8) : Option (List UInt8) := (top CT).stage 11 [] 11 [1, 1, 0, 1, 1, 1, 1] { env := [(1, (.ptr 16 0)), (3, (.str a1)), (21, (.bool a2))], heap := [(16, .box [(.bool a3.1), (.str a3.2.1), (.str a3.2.2)])], salt := 0 }
noncomputable abbrev numtext_Point (x0 : Bool × List UInt8 × List UInt8) : Option (List UInt8 × Bool) := (top CT).callF 12 (x0)
noncomputable abbrev abacistref07_Point (x0 : Bool × List UInt8 × List UInt8) : Option (List UInt8 × Bool) := (top CT).callF 13 (x0)
noncomputable abbrev abacistref07_Point_1 (a1 : Int) (a2 : List UInt8) : Option (List UInt8 × Bool) := (top CT).stage 13 [] 13 [0, 0, 1, 1, 1, 1, 1] { env := [(4, (.int .i64 a1)), (7, (.str a2))], heap := [], salt := 0 }
noncomputable abbrev numtext_Ends (x0 : Bool × List UInt8 × List UInt8) : Option (Int × Bool) := (top CT).callF 14 (x0)
noncomputable abbrev abacistref07_Ends (x0 : Bool × List UInt8 × List UInt8) : Option (Int × Bool) := (top CT).callF 15 (x0)
noncomputable abbrev abacistref07_Text (x0 : Bool × List UInt8 × List UInt8) : Option (List UInt8) := (top CT).callF 16 (x0)
noncomputable abbrev abacistref07_Text_1 (a1 : List UInt8) (a2 : Bool × List UInt8 × List UInt8) : Option (List UInt8) := (top CT).stage 16 [] 16 [1, 1, 1] { env := [(1, (.ptr 16 0)), (3, (.str a1))], heap := [(16, .box [(.bool a2.1), (.str a2.2.1), (.str a2.2.2)])], salt := 0 }
noncomputable abbrev abacistref07_Text_2 (a1 : List UInt8) (a2 : Bool) (a3 : Bool × List UInt8 × List UInt8) : Option (List UInt8) := (top CT).stage 16 [] 16 [1, 0, 1, 1, 1, 1] { env := [(1, (.ptr 16 0)), (3, (.str a1)), (21, (.bool a2))], heap := [(16, .box [(.bool a3.1), (.str a3.2.1), (.str a3.2.2)])], salt := 0 }
noncomputable abbrev numtext_Parse (x0 : List UInt8) : Option ((Bool × List UInt8 × List UInt8) × Int) := (top CT).callF 17 (x0)
noncomputable abbrev numtext_Parse_1 (a1 : Bool) (a2 : Int) (a3 : Bool × List UInt8 × List UInt8) (a4 : Bool × List UInt8 × List UInt8) : Option ((Bool × List UInt8 × List UInt8) × Int) := (top CT).stage 17 [] 17 [1, 1, 1, 1, 1, 1] { env := [(2, (.ptr 32 0)), (4, (.bool a1)), (8, (.ptr 128 0)), (9, (.int .i64 a2))], heap := [(32, .box [(.bool a3.1), (.str a3.2.1), (.str a3.2.2)]), (128, .box [(.bool a4.1), (.str a4.2.1), (.str a4.2.2)])], salt := 0 }
noncomputable abbrev numtext_Parse_2 (a1 : Int) (a2 : Bool) (a3 : Bool × List UInt8 × List UInt8) (a4 : Bool × List UInt8 × List UInt8) : Option ((Bool × List UInt8 × List UInt8) × Int) := (top CT).stage 17 [] 17 [1, 0, 1, 1, 1, 1, 1, 1] { env := [(2, (.ptr 32 0)), (8, (.ptr 128 0)), (9, (.int .i64 a1)), (37, (.bool a2))], heap := [(32, .box [(.bool a3.1), (.str a3.2.1), (.str a3.2.2)]), (128, .box [(.bool a4.1), (.str a4.2.1), (.str a4.2.2)])], salt := 0 }
noncomputable abbrev numtext_Parse_3 (a1 : Int) (a2 : Bool × List UInt8 × List UInt8) (a3 : Bool × List UInt8 × List UInt8) : Option ((Bool × List UInt8 × List UInt8) × Int) := (top CT).stage 17 [] 17 [1, 1, 1, 1, 1, 1, 1] { env := [(2, (.ptr 32 0)), (8, (.ptr 128 0)), (9, (.int .i64 a1))], heap := [(32, .box [(.bool a2.1), (.str a2.2.1), (.str a2.2.2)]), (128, .box [(.bool a3.1), (.str a3.2.1), (.str a3.2.2)])], salt := 0 }
noncomputable abbrev numtext_Decimal (x0 : List UInt8) : Option ((Bool × List UInt8 × List UInt8) × Int) := (top CT).callF 18 (x0)
noncomputable abbrev numtext_Decimal_1 (a1 : List UInt8) (a2 : List UInt8) (a3 : List UInt8) (a4 : Bool) (a5 : Bool × List UInt8 × List UInt8) : Option ((Bool × List UInt8 × List UInt8) × Int) := (top CT).stage 18 [] 18 [1, 0, 0, 1, 1] { env := [(0, (.str a1)), (2, (.ptr 32 0)), (4, (.str a2)), (5, (.str a3)), (15, (.bool a4))], heap := [(32, .box [(.bool a5.1), (.str a5.2.1), (.str a5.2.2)])], salt := 0 }
noncomputable abbrev abacistref05_Well (x0 : Bool × List UInt8 × List UInt8) : Option (Bool × List UInt8 × List UInt8) := (top CT).callF 19 (x0)
noncomputable abbrev abacistref05_Abs (x0 : Bool × List UInt8 × List UInt8) : Option (Bool × List UInt8 × List UInt8) := (top CT).callF 20 (x0)
noncomputable abbrev abacistlaw07_known : Option (Bool) := (top CT).callF 21 ()
noncomputable abbrev abacistref07_Parse (x0 : List UInt8) : Option ((Bool × List UInt8 × List UInt8) × Int) := (top CT).callF 22 (x0)
noncomputable abbrev abacistref07_Parse_1 (a1 : List UInt8) (a2 : Bool) (a3 : Bool × List UInt8 × List UInt8) : Option ((Bool × List UInt8 × List UInt8) × Int) := (top CT).stage 22 [] 22 [1, 1] { env := [(0, (.str a1)), (2, (.ptr 32 0)), (4, (.bool a2))], heap := [(32, .box [(.bool a3.1), (.str a3.2.1), (.str a3.2.2)])], salt := 0 }
noncomputable abbrev abacistref07_Parse_2 (a1 : List UInt8) (a2 : Bool) (a3 : Bool × List UInt8 × List UInt8) : Option ((Bool × List UInt8 × List UInt8) × Int) := (top CT).stage 22 [] 22 [1, 1, 1] { env := [(0, (.str a1)), (2, (.ptr 32 0)), (4, (.bool a2))], heap := [(32, .box [(.bool a3.1), (.str a3.2.1), (.str a3.2.2)])], salt := 0 }
noncomputable abbrev abacistref07_Parse_3 (a1 : Bool) (a2 : Int) (a3 : Bool × List UInt8 × List UInt8) (a4 : Bool × List UInt8 × List UInt8) : Option ((Bool × List UInt8 × List UInt8) × Int) := (top CT).stage 22 [] 22 [1, 1, 1, 1, 1, 1] { env := [(2, (.ptr 32 0)), (4, (.bool a1)), (5, (.ptr 80 0)), (6, (.int .i64 a2))], heap := [(32, .box [(.bool a3.1), (.str a3.2.1), (.str a3.2.2)]), (80, .box [(.bool a4.1), (.str a4.2.1), (.str a4.2.2)])], salt := 0 }
noncomputable abbrev abacistref07_Parse_4 (a1 : Int) (a2 : Bool) (a3 : Bool × List UInt8 × List UInt8) (a4 : Bool × List UInt8 × List UInt8) : Option ((Bool × List UInt8 × List UInt8) × Int) := (top CT).stage 22 [] 22 [1, 0, 1, 1, 1, 1, 1, 1] { env := [(2, (.ptr 32 0)), (5, (.ptr 80 0)), (6, (.int .i64 a1)), (43, (.bool a2))], heap := [(32, .box [(.bool a3.1), (.str a3.2.1), (.str a3.2.2)]), (80, .box [(.bool a4.1), (.str a4.2.1), (.str a4.2.2)])], salt := 0 }
noncomputable abbrev abacistref07_Parse_5 (a1 : Int) (a2 : Bool × List UInt8 × List UInt8) (a3 : Bool × List UInt8 × List UInt8) : Option ((Bool × List UInt8 × List UInt8) × Int) := (top CT).stage 22 [] 22 [1, 1, 1, 1, 1, 1, 1] { env := [(2, (.ptr 32 0)), (5, (.ptr 80 0)), (6, (.int .i64 a1))], heap := [(32, .box [(.bool a2.1), (.str a2.2.1), (.str a2.2.2)]), (80, .box [(.bool a3.1), (.str a3.2.1), (.str a3.2.2)])], salt := 0 }
noncomputable abbrev abacistref07_Decimal (x0 : List UInt8) : Option ((Bool × List UInt8 × List UInt8) × Int) := (top CT).callF 23 (x0)
noncomputable abbrev abacistref07_Decimal_1 (a1 : List UInt8) (a2 : Int) (a3 : List UInt8) (a4 : List UInt8) (a5 : Bool × List UInt8 × List UInt8) : Option ((Bool × List UInt8 × List UInt8) × Int) := (top CT).stage 23 [] 23 [1, 1, 1, 1, 1] { env := [(0, (.str a1)), (2, (.ptr 32 0)), (4, (.int .i64 a2)), (5, (.str a3)), (6, (.str a4))], heap := [(32, .box [(.bool a5.1), (.str a5.2.1), (.str a5.2.2)])], salt := 0 }
noncomputable abbrev abacistref07_Decimal_2 (a1 : List UInt8) (a2 : List UInt8) (a3 : List UInt8) (a4 : Bool) (a5 : Bool × List UInt8 × List UInt8) : Option ((Bool × List UInt8 × List UInt8) × Int) := (top CT).stage 23 [] 23 [1, 0, 1, 1, 1, 1, 1] { env := [(0, (.str a1)), (2, (.ptr 32 0)), (5, (.str a2)), (6, (.str a3)), (32, (.bool a4))], heap := [(32, .box [(.bool a5.1), (.str a5.2.1), (.str a5.2.2)])], salt := 0 }
noncomputable abbrev abacistlaw08_known : Option (Bool) := (top CT).callF 24 ()
noncomputable abbrev value_Literal (x0 : List UInt8) : Option ((Int × (Bool × List UInt8 × List UInt8) × List UInt8 × Bool × Int) × Int) := (top CT).callF 25 (x0)
noncomputable abbrev value_Literal_1 (a1 : List UInt8) (a2 : Bool) (a3 : Int × (Bool × List UInt8 × List UInt8) × List UInt8 × Bool × Int) : Option ((Int × (Bool × List UInt8 × List UInt8) × List UInt8 × Bool × Int) × Int) := (top CT).stage 25 [] 25 [1, 1, 1, 0, 1, 0, 1, 1] { env := [(0, (.str a1)), (2, (.ptr 32 0)), (16, (.bool a2))], heap := [(32, .box [(.int .i64 a3.1), (.bool a3.2.1.1), (.str a3.2.1.2.1), (.str a3.2.1.2.2), (.str a3.2.2.1), (.bool a3.2.2.2.1), (.int .i64 a3.2.2.2.2)])], salt := 0 }
noncomputable abbrev abacistref08_Literal (x0 : List UInt8) : Option ((Int × (Bool × List UInt8 × List UInt8) × List UInt8 × Bool × Int) × Int) := (top CT).callF 26 (x0)
noncomputable abbrev abacistref08_Literal_1 (a1 : List UInt8) (a2 : Bool) (a3 : Int × (Bool × List UInt8 × List UInt8) × List UInt8 × Bool × Int) : Option ((Int × (Bool × List UInt8 × List UInt8) × List UInt8 × Bool × Int) × Int) := (top CT).stage 26 [] 26 [1, 0, 1, 1, 1] { env := [(0, (.str a1)), (2, (.ptr 32 0)), (20, (.bool a2))], heap := [(32, .box [(.int .i64 a3.1), (.bool a3.2.1.1), (.str a3.2.1.2.1), (.str a3.2.1.2.2), (.str a3.2.2.1), (.bool a3.2.2.2.1), (.int .i64 a3.2.2.2.2)])], salt := 0 }
noncomputable abbrev abacistref08_Literal_2 (a1 : List UInt8) (a2 : Int × (Bool × List UInt8 × List UInt8) × List UInt8 × Bool × Int) : Option ((Int × (Bool × List UInt8 × List UInt8) × List UInt8 × Bool × Int) × Int) := (top CT).stage 26 [] 26 [1, 1, 1, 1, 1, 1, 1, 1, 1] { env := [(0, (.str a1)), (2, (.ptr 32 0))], heap := [(32, .box [(.int .i64 a2.1), (.bool a2.2.1.1), (.str a2.2.1.2.1), (.str a2.2.1.2.2), (.str a2.2.2.1), (.bool a2.2.2.2.1), (.int .i64 a2.2.2.2.2)])], salt := 0 }
noncomputable abbrev value_Content (x0 : Int × (Bool × List UInt8 × List UInt8) × List UInt8 × Bool × Int) : Option (List UInt8 × Int) := (top CT).callF 27 (x0)
noncomputable abbrev value_Content_1 (a1 : List UInt8) (a2 : Bool) : Option (List UInt8 × Int) := (top CT).stage 27 [] 27 [1, 1, 0, 1, 1, 1, 1] { env := [(4, (.str a1)), (31, (.bool a2))], heap := [], salt := 0 }
noncomputable abbrev abacistref08_Content (x0 : Int × (Bool × List UInt8 × List UInt8) × List UInt8 × Bool × Int) : Option (List UInt8 × Int) := (top CT).callF 28 (x0)
noncomputable abbrev abacistref08_Content_1 (a1 : List UInt8) (a2 : Bool) : Option (List UInt8 × Int) := (top CT).stage 28 [] 28 [1, 0, 1, 1, 1, 1] { env := [(4, (.str a1)), (38, (.bool a2))], heap := [], salt := 0 }
noncomputable abbrev value_Right (x0 : Int × (Bool × List UInt8 × List UInt8) × List UInt8 × Bool × Int) : Option (Bool) := (top CT).callF 29 (x0)
noncomputable abbrev value_Named (x0 : List UInt8) : Option (Int × Bool) := (top CT).callF 30 (x0)
noncomputable abbrev value_Named_1 (a1 : List UInt8) : Option (Int × Bool) := (top CT).stage 30 [{ f := 30, path := [0, 0, 1], op := 0, rest := [1], env := [(0, (.str a1))], salt := 0 }] 102 [] { env := [], heap := [], salt := 7 }
noncomputable abbrev value_Named_2 (a1 : List UInt8) (a2 : List UInt8) (a3 : List UInt8) (a4 : List UInt8) (a5 : List UInt8) (a6 : List UInt8) (a7 : List UInt8) (a8 : List UInt8) (a9 : List UInt8) (a10 : Int) : Option (Int × Bool) := (top CT).stage 30 [] 30 [0, 1, 0, 1] { env := [(0, (.str a1)), (6, (.agg [(.str a2), (.str a3), (.str a4), (.str a5), (.str a6), (.str a7), (.str a8), (.str a9)])), (7, (.int .i64 a10))], heap := [], salt := 0 }
noncomputable abbrev value_Named_3 (a1 : List UInt8) (a2 : Int) (a3 : List UInt8) (a4 : List UInt8) (a5 : List UInt8) (a6 : List UInt8) (a7 : List UInt8) (a8 : List UInt8) (a9 : List UInt8) (a10 : List UInt8) (a11 : Int) (a12 : Bool) : Option (Int × Bool) := (top CT).stage 30 [] 30 [1, 1, 0, 0, 1, 1, 0, 0, 1, 0, 1] { env := [(0, (.str a1)), (4, (.int .i64 a2)), (6, (.agg [(.str a3), (.str a4), (.str a5), (.str a6), (.str a7), (.str a8), (.str a9), (.str a10)])), (7, (.int .i64 a11)), (17, (.bool a12))], heap := [], salt := 0 }
noncomputable abbrev abacistref08_Named (x0 : List UInt8) : Option (Int × Bool) := (top CT).callF 31 (x0)
noncomputable abbrev abacistref08_Named_1 (a1 : List UInt8) (a2 : Int) : Option (Int × Bool) := (top CT).stage 31 [] 31 [0, 1, 0, 1] { env := [(0, (.str a1)), (4, (.int .i64 a2))], heap := [], salt := 0 }
noncomputable abbrev value_Num (x0 : Bool × List UInt8 × List UInt8) : Option (Int × (Bool × List UInt8 × List UInt8) × List UInt8 × Bool × Int) := (top CT).callF 32 (x0)
noncomputable abbrev value_Num_1 (a1 : Bool × List UInt8 × List UInt8) (a2 : Int × (Bool × List UInt8 × List UInt8) × List UInt8 × Bool × Int) : Option (Int × (Bool × List UInt8 × List UInt8) × List UInt8 × Bool × Int) := (top CT).stage 32 [] 32 [1, 1] { env := [(1, (.ptr 16 0)), (2, (.ptr 32 0))], heap := [(16, .box [(.bool a1.1), (.str a1.2.1), (.str a1.2.2)]), (32, .box [(.int .i64 a2.1), (.bool a2.2.1.1), (.str a2.2.1.2.1), (.str a2.2.1.2.2), (.str a2.2.2.1), (.bool a2.2.2.2.1), (.int .i64 a2.2.2.2.2)])], salt := 0 }
noncomputable abbrev abacistref08_Num (x0 : Bool × List UInt8 × List UInt8) : Option (Int × (Bool × List UInt8 × List UInt8) × List UInt8 × Bool × Int) := (top CT).callF 33 (x0)
noncomputable abbrev value_Text (x0 : List UInt8) : Option (Int × (Bool × List UInt8 × List UInt8) × List UInt8 × Bool × Int) := (top CT).callF 34 (x0)
noncomputable abbrev abacistref08_Text (x0 : List UInt8) : Option (Int × (Bool × List UInt8 × List UInt8) × List UInt8 × Bool × Int) := (top CT).callF 35 (x0)
noncomputable abbrev value_Truth (x0 : Bool) : Option (Int × (Bool × List UInt8 × List UInt8) × List UInt8 × Bool × Int) := (top CT).callF 36 (x0)
noncomputable abbrev abacistref08_Truth (x0 : Bool) : Option (Int × (Bool × List UInt8 × List UInt8) × List UInt8 × Bool × Int) := (top CT).callF 37 (x0)
noncomputable abbrev value_Fault (x0 : Int) : Option (Int × (Bool × List UInt8 × List UInt8) × List UInt8 × Bool × Int) := (top CT).callF 38 (x0)
noncomputable abbrev value_Fault_1 (a1 : Int) (a2 : Int × (Bool × List UInt8 × List UInt8) × List UInt8 × Bool × Int) : Option (Int × (Bool × List UInt8 × List UInt8) × List UInt8 × Bool × Int) := (top CT).stage 38 [] 38 [1, 1] { env := [(0, (.int .i64 a1)), (2, (.ptr 32 0))], heap := [(32, .box [(.int .i64 a2.1), (.bool a2.2.1.1), (.str a2.2.1.2.1), (.str a2.2.1.2.2), (.str a2.2.2.1), (.bool a2.2.2.2.1), (.int .i64 a2.2.2.2.2)])], salt := 0 }
noncomputable abbrev abacistref08_Fault (x0 : Int) : Option (Int × (Bool × List UInt8 × List UInt8) × List UInt8 × Bool × Int) := (top CT).callF 39 (x0)
noncomputable abbrev abacistref08_Fault_1 (a1 : Int) (a2 : Bool) (a3 : Int × (Bool × List UInt8 × List UInt8) × List UInt8 × Bool × Int) : Option (Int × (Bool × List UInt8 × List UInt8) × List UInt8 × Bool × Int) := (top CT).stage 39 [] 39 [1, 0, 1] { env := [(0, (.int .i64 a1)), (2, (.ptr 32 0)), (8, (.bool a2))], heap := [(32, .box [(.int .i64 a3.1), (.bool a3.2.1.1), (.str a3.2.1.2.1), (.str a3.2.1.2.2), (.str a3.2.2.1), (.bool a3.2.2.2.1), (.int .i64 a3.2.2.2.2)])], salt := 0 }
noncomputable abbrev abacistref08_Fault_2 (a1 : Int) (a2 : Int × (Bool × List UInt8 × List UInt8) × List UInt8 × Bool × Int) : Option (Int × (Bool × List UInt8 × List UInt8) × List UInt8 × Bool × Int) := (top CT).stage 39 [] 39 [1, 1] { env := [(0, (.int .i64 a1)), (2, (.ptr 32 0))], heap := [(32, .box [(.int .i64 a2.1), (.bool a2.2.1.1), (.str a2.2.1.2.1), (.str a2.2.1.2.2), (.str a2.2.2.1), (.bool a2.2.2.2.1), (.int .i64 a2.2.2.2.2)])], salt := 0 }
noncomputable abbrev value_Of (x0 : Bool × List UInt8 × List UInt8) (x1 : Int) : Option (Int × (Bool × List UInt8 × List UInt8) × List UInt8 × Bool × Int) := (top CT).callF 40 (x0, x1)
noncomputable abbrev abacistref08_Of (x0 : Bool × List UInt8 × List UInt8) (x1 : Int) : Option (Int × (Bool × List UInt8 × List UInt8) × List UInt8 × Bool × Int) := (top CT).callF 41 (x0, x1)
noncomputable abbrev value_Name (x0 : Int) : Option (List UInt8) := (top CT).callF 42 (x0)
noncomputable abbrev value_Name_1 (a1 : Int) : Option (List UInt8) := (top CT).stage 42 [{ f := 42, path := [0, 1], op := 0, rest := [1, 2], env := [(0, (.int .i64 a1))], salt := 0 }] 102 [] { env := [], heap := [], salt := 5 }
noncomputable abbrev value_Name_2 (a1 : Int) (a2 : Bool) (a3 : List UInt8) (a4 : List UInt8) (a5 : List UInt8) (a6 : List UInt8) (a7 : List UInt8) (a8 : List UInt8) (a9 : List UInt8) (a10 : List UInt8) : Option (List UInt8) := (top CT).stage 42 [] 42 [1, 0, 1, 1] { env := [(0, (.int .i64 a1)), (3, (.ptr 48 0)), (10, (.bool a2))], heap := [(48, .box [(.str a3), (.str a4), (.str a5), (.str a6), (.str a7), (.str a8), (.str a9), (.str a10)])], salt := 0 }
noncomputable abbrev abacistref08_Name (x0 : Int) : Option (List UInt8) := (top CT).callF 43 (x0)
noncomputable abbrev abacistref08_Name_1 (a1 : Int) (a2 : Bool) : Option (List UInt8) := (top CT).stage 43 [] 43 [1, 0, 1] { env := [(0, (.int .i64 a1)), (8, (.bool a2))], heap := [], salt := 0 }
noncomputable abbrev abacistref08_Right (x0 : Int × (Bool × List UInt8 × List UInt8) × List UInt8 × Bool × Int) : Option (Bool) := (top CT).callF 44 (x0)
noncomputable abbrev value_Show (x0 : Int × (Bool × List UInt8 × List UInt8) × List UInt8 × Bool × Int) : Option (List UInt8) := (top CT).callF 45 (x0)
noncomputable abbrev abacistref08_Show (x0 : Int × (Bool × List UInt8 × List UInt8) × List UInt8 × Bool × Int) : Option (List UInt8) := (top CT).callF 46 (x0)
noncomputable abbrev coerce_Cmp (x0 : Int × (Bool × List UInt8 × List UInt8) × List UInt8 × Bool × Int) (x1 : Int × (Bool × List UInt8 × List UInt8) × List UInt8 × Bool × Int) : Option (Int × Int) := (top CT).callF 47 (x0, x1)
noncomputable abbrev coerce_Cmp_1 (a1 : Int) (a2 : Bool) (a3 : List UInt8) (a4 : List UInt8) (a5 : List UInt8) (a6 : Bool) (a7 : Int) (a8 : Int) (a9 : Bool) (a10 : List UInt8) (a11 : List UInt8) (a12 : List UInt8) (a13 : Bool) (a14 : Int) (a15 : Int × (Bool × List UInt8 × List UInt8) × List UInt8 × Bool × Int) (a16 : Int × (Bool × List UInt8 × List UInt8) × List UInt8 × Bool × Int) : Option (Int × Int) := (top CT).stage 47 [{ f := 47, path := [0, 0, 1], op := 4, rest := [5], env := [(2, (.ptr 32 0)), (3, (.ptr 48 0))], salt := 0 }] 106 [] { env := [(0, (.func 107 [(.agg [(.int .i64 a1), (.bool a2), (.str a3), (.str a4), (.str a5), (.bool a6), (.int .i64 a7)])] [])), (1, (.func 107 [(.agg [(.int .i64 a8), (.bool a9), (.str a10), (.str a11), (.str a12), (.bool a13), (.int .i64 a14)])] []))], heap := [(32, .box [(.int .i64 a15.1), (.bool a15.2.1.1), (.str a15.2.1.2.1), (.str a15.2.1.2.2), (.str a15.2.2.1), (.bool a15.2.2.2.1), (.int .i64 a15.2.2.2.2)]), (48, .box [(.int .i64 a16.1), (.bool a16.2.1.1), (.str a16.2.1.2.1), (.str a16.2.1.2.2), (.str a16.2.2.1), (.bool a16.2.2.2.1), (.int .i64 a16.2.2.2.2)])], salt := 12 }
noncomputable abbrev coerce_Cmp_2 (a1 : Int) (a2 : Int × (Bool × List UInt8 × List UInt8) × List UInt8 × Bool × Int) (a3 : Int × (Bool × List UInt8 × List UInt8) × List UInt8 × Bool × Int) : Option (Int × Int) := (top CT).stage 47 [] 47 [1, 0, 1] { env := [(2, (.ptr 32 0)), (3, (.ptr 48 0)), (6, (.int .i64 a1))], heap := [(32, .box [(.int .i64 a2.1), (.bool a2.2.1.1), (.str a2.2.1.2.1), (.str a2.2.1.2.2), (.str a2.2.2.1), (.bool a2.2.2.2.1), (.int .i64 a2.2.2.2.2)]), (48, .box [(.int .i64 a3.1), (.bool a3.2.1.1), (.str a3.2.1.2.1), (.str a3.2.1.2.2), (.str a3.2.2.1), (.bool a3.2.2.2.1), (.int .i64 a3.2.2.2.2)])], salt := 0 }
noncomputable abbrev coerce_First (x0 : List (Int × (Bool × List UInt8 × List UInt8) × List UInt8 × Bool × Int)) : Option (Int) := (top CT).callF 49 (x0)
noncomputable abbrev coerce_First_1 (a1 : List (Int × (Bool × List UInt8 × List UInt8) × List UInt8 × Bool × Int)) (a2 : Int) (a3 : Int) : Option (Int) := (top CT).stage 49 [] 49 [0, 1, 0, 1] { env := [(6, (.sl (.pair (.int .i64) (.pair (.pair .bool (.pair .str .str)) (.pair .str (.pair .bool (.int .i64))))) a1 false)), (7, (.int .i64 a2)), (8, (.int .i64 a3))], heap := [], salt := 0 }
noncomputable abbrev abacistlaw09_known : Option (Bool) := (top CT).callF 51 ()
noncomputable abbrev abacistref05_Cmp (x0 : Bool × List UInt8 × List UInt8) (x1 : Bool × List UInt8 × List UInt8) : Option (Int) := (top CT).callF 52 (x0, x1)
noncomputable abbrev coerce_Num (x0 : Int × (Bool × List UInt8 × List UInt8) × List UInt8 × Bool × Int) : Option ((Bool × List UInt8 × List UInt8) × Int) := (top CT).callF 53 (x0)
noncomputable abbrev abacistref09_Num (x0 : Int × (Bool × List UInt8 × List UInt8) × List UInt8 × Bool × Int) : Option ((Bool × List UInt8 × List UInt8) × Int) := (top CT).callF 54 (x0)
noncomputable abbrev coerce_Text (x0 : Int × (Bool × List UInt8 × List UInt8) × List UInt8 × Bool × Int) : Option (List UInt8 × Int) := (top CT).callF 55 (x0)
noncomputable abbrev abacistref09_Text (x0 : Int × (Bool × List UInt8 × List UInt8) × List UInt8 × Bool × Int) : Option (List UInt8 × Int) := (top CT).callF 56 (x0)
noncomputable abbrev coerce_Truth (x0 : Int × (Bool × List UInt8 × List UInt8) × List UInt8 × Bool × Int) : Option (Bool × Int) := (top CT).callF 57 (x0)
noncomputable abbrev coerce_Truth_1 (a1 : Bool) (a2 : Int × (Bool × List UInt8 × List UInt8) × List UInt8 × Bool × Int) : Option (Bool × Int) := (top CT).stage 57 [] 57 [1, 1, 0, 0, 1, 1, 1, 0, 1, 0, 1, 1] { env := [(1, (.ptr 16 0)), (34, (.bool a1))], heap := [(16, .box [(.int .i64 a2.1), (.bool a2.2.1.1), (.str a2.2.1.2.1), (.str a2.2.1.2.2), (.str a2.2.2.1), (.bool a2.2.2.2.1), (.int .i64 a2.2.2.2.2)])], salt := 0 }
noncomputable abbrev abacistref09_Truth (x0 : Int × (Bool × List UInt8 × List UInt8) × List UInt8 × Bool × Int) : Option (Bool × Int) := (top CT).callF 58 (x0)
noncomputable abbrev abacistref09_Truth_1 (a1 : Bool) (a2 : Int × (Bool × List UInt8 × List UInt8) × List UInt8 × Bool × Int) : Option (Bool × Int) := (top CT).stage 58 [] 58 [1, 0, 0, 1, 1, 1, 0, 1, 1, 1] { env := [(1, (.ptr 16 0)), (28, (.bool a1))], heap := [(16, .box [(.int .i64 a2.1), (.bool a2.2.1.1), (.str a2.2.1.2.1), (.str a2.2.1.2.2), (.str a2.2.2.1), (.bool a2.2.2.2.1), (.int .i64 a2.2.2.2.2)])], salt := 0 }
noncomputable abbrev abacistlaw12_known : Option (Bool) := (top CT).callF 59 ()
noncomputable abbrev lex_Next (x0 : List UInt8) (x1 : Int) : Option ((Int × List UInt8 × Int × Bool × List UInt8 × List UInt8) × Int × Int) := (top CT).callF 60 (x0, x1)
noncomputable abbrev lex_Next_1 (a1 : List UInt8) (a2 : Int) (a3 : Int) (a4 : Bool) (a5 : Int × List UInt8 × Int × Bool × List UInt8 × List UInt8) (a6 : Int × List UInt8 × Int × Bool × List UInt8 × List UInt8) : Option ((Int × List UInt8 × Int × Bool × List UInt8 × List UInt8) × Int × Int) := (top CT).stage 60 [] 60 [1, 0, 1, 1, 1, 0, 1] { env := [(0, (.str a1)), (1, (.int .i64 a2)), (4, (.ptr 64 0)), (7, (.ptr 112 0)), (9, (.int .i64 a3)), (18, (.bool a4))], heap := [(64, .box [(.int .i64 a5.1), (.str a5.2.1), (.int .i64 a5.2.2.1), (.bool a5.2.2.2.1), (.str a5.2.2.2.2.1), (.str a5.2.2.2.2.2)]), (112, .box [(.int .i64 a6.1), (.str a6.2.1), (.int .i64 a6.2.2.1), (.bool a6.2.2.2.1), (.str a6.2.2.2.2.1), (.str a6.2.2.2.2.2)])], salt := 0 }
noncomputable abbrev lex_Next_2 (a1 : List UInt8) (a2 : Int) (a3 : Int × List UInt8 × Int × Bool × List UInt8 × List UInt8) (a4 : Int × List UInt8 × Int × Bool × List UInt8 × List UInt8) (a5 : List UInt8) (a6 : Int) (a7 : Int) : Option ((Int × List UInt8 × Int × Bool × List UInt8 × List UInt8) × Int × Int) := (top CT).stage 60 [{ f := 60, path := [0, 1, 1, 1, 1, 0, 1], op := 3, rest := [4, 5], env := [(0, (.str a5)), (4, (.ptr 64 0)), (7, (.ptr 112 0)), (9, (.int .i64 a6)), (20, (.int .i64 a7))], salt := 0 }] 122 [] { env := [(0, (.str a1)), (1, (.int .i64 a2)), (2, (.func 123 [] []))], heap := [(64, .box [(.int .i64 a3.1), (.str a3.2.1), (.int .i64 a3.2.2.1), (.bool a3.2.2.2.1), (.str a3.2.2.2.2.1), (.str a3.2.2.2.2.2)]), (112, .box [(.int .i64 a4.1), (.str a4.2.1), (.int .i64 a4.2.2.1), (.bool a4.2.2.2.1), (.str a4.2.2.2.2.1), (.str a4.2.2.2.2.2)])], salt := 24 }
noncomputable abbrev lex_Next_3 (a1 : List UInt8) (a2 : Int) (a3 : Int) (a4 : Int × List UInt8 × Int × Bool × List UInt8 × List UInt8) (a5 : Int × List UInt8 × Int × Bool × List UInt8 × List UInt8) (a6 : List UInt8) (a7 : Int) (a8 : Int) : Option ((Int × List UInt8 × Int × Bool × List UInt8 × List UInt8) × Int × Int) := (top CT).stage 60 [{ f := 60, path := [0, 1, 1, 1, 1, 0, 1], op := 3, rest := [4, 5], env := [(0, (.str a6)), (4, (.ptr 64 0)), (7, (.ptr 112 0)), (9, (.int .i64 a7)), (20, (.int .i64 a8))], salt := 0 }] 122 [0, 0, 1, 1] { env := [(0, (.str a1)), (1, (.int .i64 a2)), (2, (.func 123 [] [])), (7, (.int .i64 a3))], heap := [(64, .box [(.int .i64 a4.1), (.str a4.2.1), (.int .i64 a4.2.2.1), (.bool a4.2.2.2.1), (.str a4.2.2.2.2.1), (.str a4.2.2.2.2.2)]), (112, .box [(.int .i64 a5.1), (.str a5.2.1), (.int .i64 a5.2.2.1), (.bool a5.2.2.2.1), (.str a5.2.2.2.2.1), (.str a5.2.2.2.2.2)])], salt := 24 }
noncomputable abbrev lex_Next_4 (a1 : Int) (a2 : Int × List UInt8 × Int × Bool × List UInt8 × List UInt8) (a3 : Int × List UInt8 × Int × Bool × List UInt8 × List UInt8) (a4 : List UInt8) (a5 : Int) (a6 : Int) (a7 : Bool) (a8 : List UInt8) (a9 : Int) (a10 : Int) : Option ((Int × List UInt8 × Int × Bool × List UInt8 × List UInt8) × Int × Int) := (top CT).stage 60 [{ f := 122, path := [0, 0, 0, 0, 0, 1, 1], op := 13, rest := [14], env := [(0, (.str a4)), (1, (.int .i64 a5)), (2, (.func 123 [] [])), (7, (.int .i64 a6)), (14, (.bool a7))], salt := 24 }, { f := 60, path := [0, 1, 1, 1, 1, 0, 1], op := 3, rest := [4, 5], env := [(0, (.str a8)), (4, (.ptr 64 0)), (7, (.ptr 112 0)), (9, (.int .i64 a9)), (20, (.int .i64 a10))], salt := 0 }] 123 [] { env := [(0, (.int .u8 a1))], heap := [(64, .box [(.int .i64 a2.1), (.str a2.2.1), (.int .i64 a2.2.2.1), (.bool a2.2.2.2.1), (.str a2.2.2.2.2.1), (.str a2.2.2.2.2.2)]), (112, .box [(.int .i64 a3.1), (.str a3.2.1), (.int .i64 a3.2.2.1), (.bool a3.2.2.2.1), (.str a3.2.2.2.2.1), (.str a3.2.2.2.2.2)])], salt := 98326 }
noncomputable abbrev lex_Next_5 (a1 : List UInt8) (a2 : Int) (a3 : Int) (a4 : Bool) (a5 : Int × List UInt8 × Int × Bool × List UInt8 × List UInt8) (a6 : Int × List UInt8 × Int × Bool × List UInt8 × List UInt8) (a7 : List UInt8) (a8 : Int) (a9 : Int) : Option ((Int × List UInt8 × Int × Bool × List UInt8 × List UInt8) × Int × Int) := (top CT).stage 60 [{ f := 60, path := [0, 1, 1, 1, 1, 0, 1], op := 3, rest := [4, 5], env := [(0, (.str a7)), (4, (.ptr 64 0)), (7, (.ptr 112 0)), (9, (.int .i64 a8)), (20, (.int .i64 a9))], salt := 0 }] 122 [1, 0, 0, 0, 0, 1, 1] { env := [(0, (.str a1)), (1, (.int .i64 a2)), (2, (.func 123 [] [])), (7, (.int .i64 a3)), (22, (.bool a4))], heap := [(64, .box [(.int .i64 a5.1), (.str a5.2.1), (.int .i64 a5.2.2.1), (.bool a5.2.2.2.1), (.str a5.2.2.2.2.1), (.str a5.2.2.2.2.2)]), (112, .box [(.int .i64 a6.1), (.str a6.2.1), (.int .i64 a6.2.2.1), (.bool a6.2.2.2.1), (.str a6.2.2.2.2.1), (.str a6.2.2.2.2.2)])], salt := 24 }
noncomputable abbrev lex_Next_6 (a1 : Int) (a2 : Int) (a3 : Int) (a4 : Int × List UInt8 × Int × Bool × List UInt8 × List UInt8) (a5 : Int × List UInt8 × Int × Bool × List UInt8 × List UInt8) : Option ((Int × List UInt8 × Int × Bool × List UInt8 × List UInt8) × Int × Int) := (top CT).stage 60 [] 60 [1, 1, 1, 1, 1, 1, 1, 0, 1] { env := [(1, (.int .i64 a1)), (4, (.ptr 64 0)), (7, (.ptr 112 0)), (8, (.int .i64 a2)), (9, (.int .i64 a3))], heap := [(64, .box [(.int .i64 a4.1), (.str a4.2.1), (.int .i64 a4.2.2.1), (.bool a4.2.2.2.1), (.str a4.2.2.2.2.1), (.str a4.2.2.2.2.2)]), (112, .box [(.int .i64 a5.1), (.str a5.2.1), (.int .i64 a5.2.2.1), (.bool a5.2.2.2.1), (.str a5.2.2.2.2.1), (.str a5.2.2.2.2.2)])], salt := 0 }
noncomputable abbrev lex_Next_7 (a1 : List UInt8) (a2 : Int) (a3 : Int × List UInt8 × Int × Bool × List UInt8 × List UInt8) (a4 : Int × List UInt8 × Int × Bool × List UInt8 × List UInt8) (a5 : List UInt8) (a6 : Int) (a7 : Int) : Option ((Int × List UInt8 × Int × Bool × List UInt8 × List UInt8) × Int × Int) := (top CT).stage 60 [{ f := 60, path := [0, 0, 1, 1, 1, 1, 1, 1, 1, 0, 1, 0, 1, 1, 1, 1, 1, 1, 0, 1], op := 2, rest := [3], env := [(0, (.str a5)), (1, (.int .i64 a6)), (4, (.ptr 64 0)), (7, (.ptr 112 0)), (9, (.int .i64 a7))], salt := 0 }] 122 [] { env := [(0, (.str a1)), (1, (.int .i64 a2)), (2, (.func 128 [] []))], heap := [(64, .box [(.int .i64 a3.1), (.str a3.2.1), (.int .i64 a3.2.2.1), (.bool a3.2.2.2.1), (.str a3.2.2.2.2.1), (.str a3.2.2.2.2.2)]), (112, .box [(.int .i64 a4.1), (.str a4.2.1), (.int .i64 a4.2.2.1), (.bool a4.2.2.2.1), (.str a4.2.2.2.2.1), (.str a4.2.2.2.2.2)])], salt := 90 }
noncomputable abbrev lex_Next_8 (a1 : Int) (a2 : Int) (a3 : Int) (a4 : Int × List UInt8 × Int × Bool × List UInt8 × List UInt8) (a5 : Int × List UInt8 × Int × Bool × List UInt8 × List UInt8) : Option ((Int × List UInt8 × Int × Bool × List UInt8 × List UInt8) × Int × Int) := (top CT).stage 60 [] 60 [2, 1] { env := [(1, (.int .i64 a1)), (4, (.ptr 64 0)), (7, (.ptr 112 0)), (8, (.int .i64 a2)), (9, (.int .i64 a3))], heap := [(64, .box [(.int .i64 a4.1), (.str a4.2.1), (.int .i64 a4.2.2.1), (.bool a4.2.2.2.1), (.str a4.2.2.2.2.1), (.str a4.2.2.2.2.2)]), (112, .box [(.int .i64 a5.1), (.str a5.2.1), (.int .i64 a5.2.2.1), (.bool a5.2.2.2.1), (.str a5.2.2.2.2.1), (.str a5.2.2.2.2.2)])], salt := 0 }
noncomputable abbrev lex_Next_9 (a1 : List UInt8) (a2 : Int) (a3 : Int) (a4 : Int × List UInt8 × Int × Bool × List UInt8 × List UInt8) (a5 : Int × List UInt8 × Int × Bool × List UInt8 × List UInt8) (a6 : List UInt8) (a7 : Int) (a8 : Int) : Option ((Int × List UInt8 × Int × Bool × List UInt8 × List UInt8) × Int × Int) := (top CT).stage 60 [{ f := 60, path := [0, 0, 1, 1, 1, 1, 1, 1, 1, 0, 1, 0, 1, 1, 1, 1, 1, 1, 0, 1], op := 2, rest := [3], env := [(0, (.str a6)), (1, (.int .i64 a7)), (4, (.ptr 64 0)), (7, (.ptr 112 0)), (9, (.int .i64 a8))], salt := 0 }] 122 [0, 0, 1, 1] { env := [(0, (.str a1)), (1, (.int .i64 a2)), (2, (.func 128 [] [])), (7, (.int .i64 a3))], heap := [(64, .box [(.int .i64 a4.1), (.str a4.2.1), (.int .i64 a4.2.2.1), (.bool a4.2.2.2.1), (.str a4.2.2.2.2.1), (.str a4.2.2.2.2.2)]), (112, .box [(.int .i64 a5.1), (.str a5.2.1), (.int .i64 a5.2.2.1), (.bool a5.2.2.2.1), (.str a5.2.2.2.2.1), (.str a5.2.2.2.2.2)])], salt := 90 }
noncomputable abbrev lex_Next_10 (a1 : List UInt8) (a2 : Int) (a3 : Int) (a4 : Bool) (a5 : Int × List UInt8 × Int × Bool × List UInt8 × List UInt8) (a6 : Int × List UInt8 × Int × Bool × List UInt8 × List UInt8) (a7 : List UInt8) (a8 : Int) (a9 : Int) : Option ((Int × List UInt8 × Int × Bool × List UInt8 × List UInt8) × Int × Int) := (top CT).stage 60 [{ f := 60, path := [0, 0, 1, 1, 1, 1, 1, 1, 1, 0, 1, 0, 1, 1, 1, 1, 1, 1, 0, 1], op := 2, rest := [3], env := [(0, (.str a7)), (1, (.int .i64 a8)), (4, (.ptr 64 0)), (7, (.ptr 112 0)), (9, (.int .i64 a9))], salt := 0 }] 122 [1, 0, 0, 0, 0, 1, 1] { env := [(0, (.str a1)), (1, (.int .i64 a2)), (2, (.func 128 [] [])), (7, (.int .i64 a3)), (22, (.bool a4))], heap := [(64, .box [(.int .i64 a5.1), (.str a5.2.1), (.int .i64 a5.2.2.1), (.bool a5.2.2.2.1), (.str a5.2.2.2.2.1), (.str a5.2.2.2.2.2)]), (112, .box [(.int .i64 a6.1), (.str a6.2.1), (.int .i64 a6.2.2.1), (.bool a6.2.2.2.1), (.str a6.2.2.2.2.1), (.str a6.2.2.2.2.2)])], salt := 90 }
noncomputable abbrev abacistref12_Next (x0 : List UInt8) (x1 : Int) : Option ((Int × List UInt8 × Int × Bool × List UInt8 × List UInt8) × Int × Int) := (top CT).callF 61 (x0, x1)
noncomputable abbrev abacistref12_Next_1 (a1 : List UInt8) (a2 : Int) (a3 : Bool) (a4 : Int × List UInt8 × Int × Bool × List UInt8 × List UInt8) : Option ((Int × List UInt8 × Int × Bool × List UInt8 × List UInt8) × Int × Int) := (top CT).stage 61 [] 61 [1, 0, 1] { env := [(0, (.str a1)), (1, (.int .i64 a2)), (4, (.ptr 64 0)), (17, (.bool a3))], heap := [(64, .box [(.int .i64 a4.1), (.str a4.2.1), (.int .i64 a4.2.2.1), (.bool a4.2.2.2.1), (.str a4.2.2.2.2.1), (.str a4.2.2.2.2.2)])], salt := 0 }
noncomputable abbrev abacistref12_Next_2 (a1 : List UInt8) (a2 : Int) (a3 : Int × List UInt8 × Int × Bool × List UInt8 × List UInt8) : Option ((Int × List UInt8 × Int × Bool × List UInt8 × List UInt8) × Int × Int) := (top CT).stage 61 [] 61 [0, 0, 1, 1] { env := [(0, (.str a1)), (1, (.int .i64 a2)), (4, (.ptr 64 0))], heap := [(64, .box [(.int .i64 a3.1), (.str a3.2.1), (.int .i64 a3.2.2.1), (.bool a3.2.2.2.1), (.str a3.2.2.2.2.1), (.str a3.2.2.2.2.2)])], salt := 0 }
noncomputable abbrev abacistref12_Next_3 (a1 : List UInt8) (a2 : Int) (a3 : Bool) (a4 : Int × List UInt8 × Int × Bool × List UInt8 × List UInt8) : Option ((Int × List UInt8 × Int × Bool × List UInt8 × List UInt8) × Int × Int) := (top CT).stage 61 [] 61 [1, 0, 0, 0, 0, 1, 1] { env := [(0, (.str a1)), (1, (.int .i64 a2)), (4, (.ptr 64 0)), (28, (.bool a3))], heap := [(64, .box [(.int .i64 a4.1), (.str a4.2.1), (.int .i64 a4.2.2.1), (.bool a4.2.2.2.1), (.str a4.2.2.2.2.1), (.str a4.2.2.2.2.2)])], salt := 0 }
noncomputable abbrev abacistref12_Next_4 (a1 : List UInt8) (a2 : Int) (a3 : Int) (a4 : Int × List UInt8 × Int × Bool × List UInt8 × List UInt8) : Option ((Int × List UInt8 × Int × Bool × List UInt8 × List UInt8) × Int × Int) := (top CT).stage 61 [] 61 [0, 0, 1, 0, 1, 0, 1, 1, 1, 1, 1, 1, 1, 1] { env := [(0, (.str a1)), (1, (.int .i64 a2)), (4, (.ptr 64 0)), (8, (.int .i64 a3))], heap := [(64, .box [(.int .i64 a4.1), (.str a4.2.1), (.int .i64 a4.2.2.1), (.bool a4.2.2.2.1), (.str a4.2.2.2.2.1), (.str a4.2.2.2.2.2)])], salt := 0 }
noncomputable abbrev abacistref12_Next_5 (a1 : List UInt8) (a2 : Int) (a3 : Int) (a4 : Bool) (a5 : Int × List UInt8 × Int × Bool × List UInt8 × List UInt8) : Option ((Int × List UInt8 × Int × Bool × List UInt8 × List UInt8) × Int × Int) := (top CT).stage 61 [] 61 [1, 0, 1, 1, 1, 1, 1, 1, 1, 1, 1] { env := [(0, (.str a1)), (1, (.int .i64 a2)), (4, (.ptr 64 0)), (7, (.int .u8 a3)), (115, (.bool a4))], heap := [(64, .box [(.int .i64 a5.1), (.str a5.2.1), (.int .i64 a5.2.2.1), (.bool a5.2.2.2.1), (.str a5.2.2.2.2.1), (.str a5.2.2.2.2.2)])], salt := 0 }
noncomputable abbrev abacistref12_Next_6 (a1 : List UInt8) (a2 : Int) (a3 : Int) (a4 : Bool) (a5 : Int × List UInt8 × Int × Bool × List UInt8 × List UInt8) : Option ((Int × List UInt8 × Int × Bool × List UInt8 × List UInt8) × Int × Int) := (top CT).stage 61 [] 61 [1, 0, 0, 0, 0, 1, 0, 1, 0, 1, 1, 1, 1, 1, 1, 1, 1] { env := [(0, (.str a1)), (1, (.int .i64 a2)), (4, (.ptr 64 0)), (8, (.int .i64 a3)), (77, (.bool a4))], heap := [(64, .box [(.int .i64 a5.1), (.str a5.2.1), (.int .i64 a5.2.2.1), (.bool a5.2.2.2.1), (.str a5.2.2.2.2.1), (.str a5.2.2.2.2.2)])], salt := 0 }
noncomputable abbrev lex_All (x0 : List UInt8) : Option ((List (Int × List UInt8 × Int × Bool × List UInt8 × List UInt8)) × Int × Int) := (top CT).callF 62 (x0)
noncomputable abbrev lex_All_1 (a1 : List UInt8) (a2 : Int) (a3 : List (Int × List UInt8 × Int × Bool × List UInt8 × List UInt8)) : Option ((List (Int × List UInt8 × Int × Bool × List UInt8 × List UInt8)) × Int × Int) := (top CT).stage 62 [] 62 [0, 1, 1, 1, 1] { env := [(0, (.str a1)), (5, (.who 1099511627776 false)), (6, (.int .i64 a2))], heap := [(1099511627776, .arr (.pair (.int .i64) (.pair .str (.pair (.int .i64) (.pair .bool (.pair .str .str))))) a3)], salt := 0 }
noncomputable abbrev abacistref12_All (x0 : List UInt8) : Option ((List (Int × List UInt8 × Int × Bool × List UInt8 × List UInt8)) × Int × Int) := (top CT).callF 63 (x0)
noncomputable abbrev abacistref12_All_1 (a1 : List UInt8) (a2 : Int) (a3 : Int) (a4 : List (Int × List UInt8 × Int × Bool × List UInt8 × List UInt8)) : Option ((List (Int × List UInt8 × Int × Bool × List UInt8 × List UInt8)) × Int × Int) := (top CT).stage 63 [] 63 [0, 1, 0, 1, 1, 1, 1] { env := [(0, (.str a1)), (5, (.who 1099511627777 false)), (6, (.int .i64 a2)), (7, (.int .i64 a3))], heap := [(1099511627777, .arr (.pair (.int .i64) (.pair .str (.pair (.int .i64) (.pair .bool (.pair .str .str))))) a4)], salt := 0 }
noncomputable abbrev abacistref12_Same (x0 : List (Int × List UInt8 × Int × Bool × List UInt8 × List UInt8)) (x1 : List (Int × List UInt8 × Int × Bool × List UInt8 × List UInt8)) : Option (Bool) := (top CT).callF 64 (x0, x1)
noncomputable abbrev abacistref12_Same_1 (a1 : List (Int × List UInt8 × Int × Bool × List UInt8 × List UInt8)) (a2 : List (Int × List UInt8 × Int × Bool × List UInt8 × List UInt8)) (a3 : Int) : Option (Bool) := (top CT).stage 64 [] 64 [0, 1, 0, 1, 1] { env := [(0, (.sl (.pair (.int .i64) (.pair .str (.pair (.int .i64) (.pair .bool (.pair .str .str))))) a1 false)), (1, (.sl (.pair (.int .i64) (.pair .str (.pair (.int .i64) (.pair .bool (.pair .str .str))))) a2 false)), (5, (.int .i64 a3))], heap := [], salt := 0 }
noncomputable abbrev abacistlaw12_taken (x0 : List (Int × List UInt8 × Int × Bool × List UInt8 × List UInt8)) : Option (List (Int × List UInt8 × Int × Bool × List UInt8 × List UInt8)) := (top CT).callF 65 (x0)
noncomputable abbrev abacistlaw12_taken_1 (a1 : List (Int × List UInt8 × Int × Bool × List UInt8 × List UInt8)) (a2 : Int) (a3 : List (Int × List UInt8 × Int × Bool × List UInt8 × List UInt8)) : Option (List (Int × List UInt8 × Int × Bool × List UInt8 × List UInt8)) := (top CT).stage 65 [] 65 [0, 1, 0, 1, 1] { env := [(0, (.sl (.pair (.int .i64) (.pair .str (.pair (.int .i64) (.pair .bool (.pair .str .str))))) a1 false)), (3, (.who 1099511627778 false)), (4, (.int .i64 a2))], heap := [(1099511627778, .arr (.pair (.int .i64) (.pair .str (.pair (.int .i64) (.pair .bool (.pair .str .str))))) a3)], salt := 0 }
noncomputable abbrev numtext_well (x0 : Bool × List UInt8 × List UInt8) : Option (Bool × List UInt8 × List UInt8) := (top CT).callF 66 (x0)
noncomputable abbrev dec_Text (x0 : List UInt8) : Option (List UInt8) := (top CT).callF 67 (x0)
noncomputable abbrev divide_DivMod (x0 : List UInt8) (x1 : List UInt8) : Option (List UInt8 × List UInt8 × Int) := (top CT).callF 68 (x0, x1)
noncomputable abbrev nat_Mul (x0 : List UInt8) (x1 : List UInt8) : Option (List UInt8) := (top CT).callF 69 (x0, x1)
noncomputable abbrev numtext_power (x0 : Int) (x1 : Int) : Option (List UInt8) := (top CT).callF 70 (x0, x1)
noncomputable abbrev strings_Repeat (x0 : List UInt8) (x1 : Int) : Option (List UInt8) := (top CT).callF 71 (x0, x1)
noncomputable abbrev abacistref04_Mul (x0 : Bool × List UInt8) (x1 : Bool × List UInt8) : Option (Bool × List UInt8) := (top CT).callF 72 (x0, x1)
noncomputable abbrev abacistref04_Make (x0 : Bool) (x1 : List UInt8) : Option (Bool × List UInt8) := (top CT).callF 73 (x0, x1)
noncomputable abbrev abacistref05_Top (x0 : Bool × List UInt8 × List UInt8) : Option (Bool × List UInt8) := (top CT).callF 74 (x0)
noncomputable abbrev abacistref07_power (x0 : List UInt8) (x1 : Int) : Option (List UInt8) := (top CT).callF 75 (x0, x1)
noncomputable abbrev abacistref03_Text (x0 : List UInt8) : Option (List UInt8) := (top CT).callF 76 (x0)
noncomputable abbrev abacistref03_Text_1 (a1 : List UInt8) (a2 : List UInt8) (a3 : Int) : Option (List UInt8) := (top CT).stage 76 [] 76 [0, 1, 0, 1, 1, 1] { env := [(0, (.str a1)), (3, (.str a2)), (4, (.int .i64 a3))], heap := [], salt := 0 }
noncomputable abbrev abacistref03_Text_2 (a1 : List UInt8) (a2 : List UInt8) (a3 : Int) (a4 : Bool) : Option (List UInt8) := (top CT).stage 76 [] 76 [1, 0, 0, 0, 1, 0, 1, 1, 1] { env := [(0, (.str a1)), (3, (.str a2)), (4, (.int .i64 a3)), (21, (.bool a4))], heap := [], salt := 0 }
noncomputable abbrev abacistref02_Div (x0 : List UInt8) (x1 : List UInt8) : Option (List UInt8) := (top CT).callF 77 (x0, x1)
noncomputable abbrev abacistref05_Low (x0 : Bool × List UInt8 × List UInt8) : Option (Bool × List UInt8) := (top CT).callF 78 (x0)
noncomputable abbrev dec_Twos (x0 : List UInt8) : Option (Int × Int) := (top CT).callF 79 (x0)
noncomputable abbrev abacistref03_Twos (x0 : List UInt8) : Option (Int × Int) := (top CT).callF 80 (x0)
noncomputable abbrev abacistref05_Sign (x0 : Bool × List UInt8 × List UInt8) : Option (Int) := (top CT).callF 81 (x0)
noncomputable abbrev strings_CutPrefix (x0 : List UInt8) (x1 : List UInt8) : Option (List UInt8 × Bool) := (top CT).callF 82 (x0, x1)
noncomputable abbrev strings_Cut (x0 : List UInt8) (x1 : List UInt8) : Option (List UInt8 × List UInt8 × Bool) := (top CT).callF 83 (x0, x1)
noncomputable abbrev numtext_fraction (x0 : List UInt8) (x1 : List UInt8) : Option ((Bool × List UInt8 × List UInt8) × Int) := (top CT).callF 84 (x0, x1)
noncomputable abbrev numtext_fraction_1 (a1 : List UInt8) (a2 : Int) (a3 : List UInt8) (a4 : Int) (a5 : Bool) (a6 : Bool × List UInt8 × List UInt8) : Option ((Bool × List UInt8 × List UInt8) × Int) := (top CT).stage 84 [] 84 [1, 0, 0, 0, 0, 0, 0, 0, 0, 0, 0, 1, 1, 1] { env := [(4, (.ptr 64 0)), (6, (.str a1)), (7, (.int .i64 a2)), (8, (.str a3)), (9, (.int .i64 a4)), (20, (.bool a5))], heap := [(64, .box [(.bool a6.1), (.str a6.2.1), (.str a6.2.2)])], salt := 0 }
noncomputable abbrev numtext_fraction_2 (a1 : List UInt8) (a2 : Int) (a3 : List UInt8) (a4 : Bool × List UInt8 × List UInt8) : Option ((Bool × List UInt8 × List UInt8) × Int) := (top CT).stage 84 [] 84 [1, 0, 0, 1, 1, 1] { env := [(4, (.ptr 64 0)), (6, (.str a1)), (7, (.int .i64 a2)), (8, (.str a3))], heap := [(64, .box [(.bool a4.1), (.str a4.2.1), (.str a4.2.2)])], salt := 0 }
noncomputable abbrev rat_Neg (x0 : Bool × List UInt8 × List UInt8) : Option (Bool × List UInt8 × List UInt8) := (top CT).callF 85 (x0)
noncomputable abbrev rat_Neg_1 (a1 : Bool × List UInt8 × List UInt8) (a2 : Bool × List UInt8 × List UInt8) : Option (Bool × List UInt8 × List UInt8) := (top CT).stage 85 [] 85 [1, 1, 1] { env := [(1, (.ptr 16 0)), (2, (.ptr 32 0))], heap := [(16, .box [(.bool a1.1), (.str a1.2.1), (.str a1.2.2)]), (32, .box [(.bool a2.1), (.str a2.2.1), (.str a2.2.2)])], salt := 0 }
noncomputable abbrev numtext_digits (x0 : List UInt8) : Option (Bool) := (top CT).callF 86 (x0)
noncomputable abbrev numtext_digits_1 (a1 : List UInt8) (a2 : List Int) (a3 : Int) (a4 : Int) : Option (Bool) := (top CT).stage 86 [] 86 [0, 1, 0, 1] { env := [(0, (.str a1)), (6, (.sl (.int .u8) a2 false)), (7, (.int .i64 a3)), (8, (.int .i64 a4))], heap := [], salt := 0 }
noncomputable abbrev numtext_digits_2 (a1 : List UInt8) (a2 : List Int) (a3 : Int) (a4 : Int) (a5 : Bool) : Option (Bool) := (top CT).stage 86 [] 86 [1, 1, 0, 0, 1, 1, 0, 0, 1, 0, 1] { env := [(0, (.str a1)), (6, (.sl (.int .u8) a2 false)), (7, (.int .i64 a3)), (8, (.int .i64 a4)), (17, (.bool a5))], heap := [], salt := 0 }
noncomputable abbrev dec_Parse (x0 : List UInt8) : Option (List UInt8 × Int) := (top CT).callF 87 (x0)
noncomputable abbrev dec_Parse_1 (a1 : List UInt8) (a2 : Bool) : Option (List UInt8 × Int) := (top CT).stage 87 [] 87 [1, 0, 0, 1] { env := [(0, (.str a1)), (10, (.bool a2))], heap := [], salt := 0 }
noncomputable abbrev dec_Parse_2 (a1 : List UInt8) (a2 : List UInt8) : Option (List UInt8 × Int) := (top CT).stage 87 [] 87 [0, 0, 1, 1, 1] { env := [(0, (.str a1)), (4, (.str a2))], heap := [], salt := 0 }
noncomputable abbrev dec_Parse_3 (a1 : List UInt8) (a2 : List UInt8) (a3 : Int) (a4 : Int) (a5 : Int) (a6 : List Int) (a7 : Int) (a8 : Int) : Option (List UInt8 × Int) := (top CT).stage 87 [] 87 [0, 1, 0, 1, 1, 0, 1, 0, 0, 0, 1, 1, 1] { env := [(0, (.str a1)), (4, (.str a2)), (5, (.int .i64 a3)), (6, (.int .u64 a4)), (7, (.int .u64 a5)), (30, (.sl (.int .u8) a6 false)), (31, (.int .i64 a7)), (32, (.int .i64 a8))], heap := [], salt := 0 }
noncomputable abbrev rat_Make (x0 : Bool × List UInt8) (x1 : Bool × List UInt8) : Option ((Bool × List UInt8 × List UInt8) × Int) := (top CT).callF 88 (x0, x1)
noncomputable abbrev rat_Make_1 (a1 : List UInt8) (a2 : List UInt8) (a3 : Bool × List UInt8) (a4 : Bool × List UInt8) (a5 : Bool × List UInt8 × List UInt8) : Option ((Bool × List UInt8 × List UInt8) × Int) := (top CT).stage 88 [] 88 [1, 1, 1, 1] { env := [(2, (.ptr 32 0)), (3, (.ptr 48 0)), (4, (.ptr 64 0)), (6, (.str a1)), (7, (.str a2))], heap := [(32, .box [(.bool a3.1), (.str a3.2)]), (48, .box [(.bool a4.1), (.str a4.2)]), (64, .box [(.bool a5.1), (.str a5.2.1), (.str a5.2.2)])], salt := 0 }
noncomputable abbrev rat_Make_2 (a1 : List UInt8) (a2 : List UInt8) (a3 : Bool) (a4 : Bool × List UInt8) (a5 : Bool × List UInt8) (a6 : Bool × List UInt8 × List UInt8) : Option ((Bool × List UInt8 × List UInt8) × Int) := (top CT).stage 88 [] 88 [1, 0, 1, 1, 1, 1] { env := [(2, (.ptr 32 0)), (3, (.ptr 48 0)), (4, (.ptr 64 0)), (6, (.str a1)), (7, (.str a2)), (44, (.bool a3))], heap := [(32, .box [(.bool a4.1), (.str a4.2)]), (48, .box [(.bool a5.1), (.str a5.2)]), (64, .box [(.bool a6.1), (.str a6.2.1), (.str a6.2.2)])], salt := 0 }
noncomputable abbrev whole_Make (x0 : Bool) (x1 : List UInt8) : Option (Bool × List UInt8) := (top CT).callF 89 (x0, x1)
noncomputable abbrev abacistref05_Right (x0 : Bool × List UInt8 × List UInt8) : Option (Bool) := (top CT).callF 90 (x0)
noncomputable abbrev abacistref05_Right_1 (a1 : Bool) (a2 : Bool × List UInt8 × List UInt8) : Option (Bool) := (top CT).stage 90 [] 90 [1, 0, 1] { env := [(1, (.ptr 16 0)), (33, (.bool a1))], heap := [(16, .box [(.bool a2.1), (.str a2.2.1), (.str a2.2.2)])], salt := 0 }
noncomputable abbrev abacistref05_Zero : Option (Bool × List UInt8 × List UInt8) := (top CT).callF 91 ()
noncomputable abbrev abacistref07_find (x0 : List UInt8) (x1 : Int) : Option (Int) := (top CT).callF 92 (x0, x1)
noncomputable abbrev abacistref07_find_1 (a1 : List UInt8) (a2 : Int) (a3 : Int) : Option (Int) := (top CT).stage 92 [] 92 [0, 1, 0, 1] { env := [(0, (.str a1)), (1, (.int .u8 a2)), (5, (.int .i64 a3))], heap := [], salt := 0 }
noncomputable abbrev abacistref07_fraction (x0 : List UInt8) (x1 : List UInt8) : Option ((Bool × List UInt8 × List UInt8) × Int) := (top CT).callF 93 (x0, x1)
noncomputable abbrev abacistref07_fraction_1 (a1 : List UInt8) (a2 : Int) (a3 : List UInt8) (a4 : Int) (a5 : Bool) (a6 : Bool × List UInt8 × List UInt8) : Option ((Bool × List UInt8 × List UInt8) × Int) := (top CT).stage 93 [] 93 [1, 0, 1, 1, 1] { env := [(4, (.ptr 64 0)), (6, (.str a1)), (7, (.int .i64 a2)), (8, (.str a3)), (9, (.int .i64 a4)), (25, (.bool a5))], heap := [(64, .box [(.bool a6.1), (.str a6.2.1), (.str a6.2.2)])], salt := 0 }
noncomputable abbrev abacistref07_fraction_2 (a1 : List UInt8) (a2 : List UInt8) (a3 : Bool) (a4 : Bool × List UInt8 × List UInt8) : Option ((Bool × List UInt8 × List UInt8) × Int) := (top CT).stage 93 [] 93 [1, 0, 1, 1, 1, 1] { env := [(4, (.ptr 64 0)), (6, (.str a1)), (8, (.str a2)), (32, (.bool a3))], heap := [(64, .box [(.bool a4.1), (.str a4.2.1), (.str a4.2.2)])], salt := 0 }
noncomputable abbrev abacistref05_Neg (x0 : Bool × List UInt8 × List UInt8) : Option (Bool × List UInt8 × List UInt8) := (top CT).callF 94 (x0)
noncomputable abbrev abacistref07_digits (x0 : List UInt8) : Option (Bool) := (top CT).callF 95 (x0)
noncomputable abbrev abacistref07_digits_1 (a1 : List UInt8) (a2 : Int) : Option (Bool) := (top CT).stage 95 [] 95 [0, 1, 0, 1] { env := [(0, (.str a1)), (3, (.int .i64 a2))], heap := [], salt := 0 }
noncomputable abbrev abacistref07_digits_2 (a1 : List UInt8) (a2 : Int) (a3 : Bool) : Option (Bool) := (top CT).stage 95 [] 95 [1, 0, 0, 1, 0, 0, 1, 0, 1] { env := [(0, (.str a1)), (3, (.int .i64 a2)), (19, (.bool a3))], heap := [], salt := 0 }
noncomputable abbrev abacistref03_Parse (x0 : List UInt8) : Option (List UInt8 × Int) := (top CT).callF 96 (x0)
noncomputable abbrev abacistref03_Parse_1 (a1 : List UInt8) (a2 : Int) : Option (List UInt8 × Int) := (top CT).stage 96 [] 96 [0, 1, 0, 1] { env := [(0, (.str a1)), (4, (.int .i64 a2))], heap := [], salt := 0 }
noncomputable abbrev abacistref03_Parse_2 (a1 : List UInt8) (a2 : Int) (a3 : Bool) : Option (List UInt8 × Int) := (top CT).stage 96 [] 96 [1, 0, 0, 1, 0, 0, 1, 0, 1] { env := [(0, (.str a1)), (4, (.int .i64 a2)), (22, (.bool a3))], heap := [], salt := 0 }
noncomputable abbrev abacistref03_Parse_3 (a1 : List UInt8) (a2 : List UInt8) (a3 : Int) : Option (List UInt8 × Int) := (top CT).stage 96 [] 96 [0, 1, 0, 1, 1, 1, 1, 1] { env := [(0, (.str a1)), (5, (.str a2)), (6, (.int .i64 a3))], heap := [], salt := 0 }
noncomputable abbrev abacistref05_Make (x0 : Bool × List UInt8) (x1 : Bool × List UInt8) : Option ((Bool × List UInt8 × List UInt8) × Int) := (top CT).callF 97 (x0, x1)
noncomputable abbrev abacistref05_Make_1 (a1 : List UInt8) (a2 : List UInt8) (a3 : Bool) (a4 : Bool × List UInt8 × List UInt8) (a5 : Bool × List UInt8) (a6 : Bool × List UInt8) : Option ((Bool × List UInt8 × List UInt8) × Int) := (top CT).stage 97 [] 97 [1, 0, 1, 1, 1, 1, 1, 1, 1] { env := [(4, (.ptr 64 0)), (6, (.ptr 96 0)), (7, (.ptr 112 0)), (9, (.str a1)), (10, (.str a2)), (45, (.bool a3))], heap := [(64, .box [(.bool a4.1), (.str a4.2.1), (.str a4.2.2)]), (96, .box [(.bool a5.1), (.str a5.2)]), (112, .box [(.bool a6.1), (.str a6.2)])], salt := 0 }
noncomputable abbrev abacistref05_Of (x0 : Int) : Option (Bool × List UInt8 × List UInt8) := (top CT).callF 98 (x0)
noncomputable abbrev value_plain (x0 : List UInt8) : Option (Bool) := (top CT).callF 99 (x0)
noncomputable abbrev value_plain_1 (a1 : List UInt8) (a2 : List Int) (a3 : Int) (a4 : Int) : Option (Bool) := (top CT).stage 99 [] 99 [0, 1, 0, 1] { env := [(0, (.str a1)), (6, (.sl (.int .u8) a2 false)), (7, (.int .i64 a3)), (8, (.int .i64 a4))], heap := [], salt := 0 }
noncomputable abbrev value_plain_2 (a1 : List UInt8) (a2 : List Int) (a3 : Int) (a4 : Int) (a5 : Bool) : Option (Bool) := (top CT).stage 99 [] 99 [1, 1, 0, 0, 1, 1, 0, 0, 1, 0, 1] { env := [(0, (.str a1)), (6, (.sl (.int .u8) a2 false)), (7, (.int .i64 a3)), (8, (.int .i64 a4)), (17, (.bool a5))], heap := [], salt := 0 }
noncomputable abbrev abacistref08_Plain (x0 : List UInt8) : Option (Bool) := (top CT).callF 100 (x0)
noncomputable abbrev abacistref08_Plain_1 (a1 : List UInt8) (a2 : Int) : Option (Bool) := (top CT).stage 100 [] 100 [0, 1, 0, 1, 1] { env := [(0, (.str a1)), (3, (.int .i64 a2))], heap := [], salt := 0 }
noncomputable abbrev abacistref08_Plain_2 (a1 : List UInt8) (a2 : Int) (a3 : Bool) : Option (Bool) := (top CT).stage 100 [] 100 [1, 0, 0, 1, 0, 0, 1, 0, 1, 1] { env := [(0, (.str a1)), (3, (.int .i64 a2)), (22, (.bool a3))], heap := [], salt := 0 }
noncomputable abbrev strings_HasPrefix (x0 : List UInt8) (x1 : List UInt8) : Option (Bool) := (top CT).callF 101 (x0, x1)
noncomputable abbrev rat_Right (x0 : Bool × List UInt8 × List UInt8) : Option (Bool) := (top CT).callF 103 (x0)
noncomputable abbrev rat_Right_1 (a1 : Bool) (a2 : Bool × List UInt8 × List UInt8) : Option (Bool) := (top CT).stage 103 [] 103 [1, 0, 0, 1] { env := [(1, (.ptr 16 0)), (3, (.bool a1))], heap := [(16, .box [(.bool a2.1), (.str a2.2.1), (.str a2.2.2)])], salt := 0 }
noncomputable abbrev rat_Of (x0 : Int) : Option (Bool × List UInt8 × List UInt8) := (top CT).callF 104 (x0)
noncomputable abbrev abacistref08_names : Option (List (List UInt8)) := (top CT).callF 105 ()
noncomputable abbrev coerce_cell_fault (x0 : Int × (Bool × List UInt8 × List UInt8) × List UInt8 × Bool × Int) : Option (Int) := (top CT).callF 107 (x0)
noncomputable abbrev coerce_like (x0 : Int × (Bool × List UInt8 × List UInt8) × List UInt8 × Bool × Int) (x1 : Int) : Option (Int × (Bool × List UInt8 × List UInt8) × List UInt8 × Bool × Int) := (top CT).callF 108 (x0, x1)
noncomputable abbrev cmp_Compare_int (x0 : Int) (x1 : Int) : Option (Int) := (top CT).callF 109 (x0, x1)
noncomputable abbrev rat_Cmp (x0 : Bool × List UInt8 × List UInt8) (x1 : Bool × List UInt8 × List UInt8) : Option (Int) := (top CT).callF 110 (x0, x1)
noncomputable abbrev cmp_Or_int (x0 : List Int) : Option (Int) := (top CT).callF 111 (x0)
noncomputable abbrev cmp_Or_int_1 (a1 : Int) (a2 : List Int) (a3 : Int) (a4 : Int) : Option (Int) := (top CT).stage 111 [] 111 [0, 1, 0, 1, 1] { env := [(3, (.int .i64 a1)), (6, (.sl (.int .i64) a2 false)), (7, (.int .i64 a3)), (8, (.int .i64 a4))], heap := [], salt := 0 }
noncomputable abbrev cmp_Compare_string (x0 : List UInt8) (x1 : List UInt8) : Option (Int) := (top CT).callF 112 (x0, x1)
noncomputable abbrev cmp_Compare_int64 (x0 : Int) (x1 : Int) : Option (Int) := (top CT).callF 113 (x0, x1)
noncomputable abbrev coerce_bit (x0 : Bool) : Option (Int) := (top CT).callF 114 (x0)
noncomputable abbrev abacistref09_fault (x0 : Int × (Bool × List UInt8 × List UInt8) × List UInt8 × Bool × Int) : Option (Int) := (top CT).callF 115 (x0)
noncomputable abbrev abacistref04_Cmp (x0 : Bool × List UInt8) (x1 : Bool × List UInt8) : Option (Int) := (top CT).callF 120 (x0, x1)
noncomputable abbrev rat_Sign (x0 : Bool × List UInt8 × List UInt8) : Option (Int) := (top CT).callF 121 (x0)
noncomputable abbrev lex_digit (x0 : Int) : Option (Bool) := (top CT).callF 124 (x0)
noncomputable abbrev lex_number (x0 : List UInt8) (x1 : Int) : Option ((Int × List UInt8 × Int × Bool × List UInt8 × List UInt8) × Int × Int) := (top CT).callF 125 (x0, x1)
noncomputable abbrev lex_number_1 (a1 : List UInt8) (a2 : Int) (a3 : Int × List UInt8 × Int × Bool × List UInt8 × List UInt8) (a4 : List UInt8) (a5 : Int) : Option ((Int × List UInt8 × Int × Bool × List UInt8 × List UInt8) × Int × Int) := (top CT).stage 125 [{ f := 125, path := [0, 1], op := 2, rest := [3], env := [(0, (.str a4)), (1, (.int .i64 a5)), (4, (.ptr 64 0))], salt := 0 }] 122 [] { env := [(0, (.str a1)), (1, (.int .i64 a2)), (2, (.func 124 [] []))], heap := [(64, .box [(.int .i64 a3.1), (.str a3.2.1), (.int .i64 a3.2.2.1), (.bool a3.2.2.2.1), (.str a3.2.2.2.2.1), (.str a3.2.2.2.2.2)])], salt := 14 }
noncomputable abbrev lex_number_2 (a1 : List UInt8) (a2 : Int) (a3 : Int) (a4 : Int × List UInt8 × Int × Bool × List UInt8 × List UInt8) (a5 : List UInt8) (a6 : Int) : Option ((Int × List UInt8 × Int × Bool × List UInt8 × List UInt8) × Int × Int) := (top CT).stage 125 [{ f := 125, path := [0, 1], op := 2, rest := [3], env := [(0, (.str a5)), (1, (.int .i64 a6)), (4, (.ptr 64 0))], salt := 0 }] 122 [0, 0, 1, 1] { env := [(0, (.str a1)), (1, (.int .i64 a2)), (2, (.func 124 [] [])), (7, (.int .i64 a3))], heap := [(64, .box [(.int .i64 a4.1), (.str a4.2.1), (.int .i64 a4.2.2.1), (.bool a4.2.2.2.1), (.str a4.2.2.2.2.1), (.str a4.2.2.2.2.2)])], salt := 14 }
noncomputable abbrev lex_number_3 (a1 : List UInt8) (a2 : Int) (a3 : Int) (a4 : Bool) (a5 : Int × List UInt8 × Int × Bool × List UInt8 × List UInt8) (a6 : List UInt8) (a7 : Int) : Option ((Int × List UInt8 × Int × Bool × List UInt8 × List UInt8) × Int × Int) := (top CT).stage 125 [{ f := 125, path := [0, 1], op := 2, rest := [3], env := [(0, (.str a6)), (1, (.int .i64 a7)), (4, (.ptr 64 0))], salt := 0 }] 122 [1, 0, 0, 0, 0, 1, 1] { env := [(0, (.str a1)), (1, (.int .i64 a2)), (2, (.func 124 [] [])), (7, (.int .i64 a3)), (22, (.bool a4))], heap := [(64, .box [(.int .i64 a5.1), (.str a5.2.1), (.int .i64 a5.2.2.1), (.bool a5.2.2.2.1), (.str a5.2.2.2.2.1), (.str a5.2.2.2.2.2)])], salt := 14 }
noncomputable abbrev lex_number_4 (a1 : List UInt8) (a2 : Int) (a3 : Int × List UInt8 × Int × Bool × List UInt8 × List UInt8) (a4 : List UInt8) (a5 : Int) (a6 : Int) : Option ((Int × List UInt8 × Int × Bool × List UInt8 × List UInt8) × Int × Int) := (top CT).stage 125 [{ f := 125, path := [0, 0, 1, 1], op := 5, rest := [6], env := [(0, (.str a4)), (1, (.int .i64 a5)), (4, (.ptr 64 0)), (7, (.int .i64 a6))], salt := 0 }] 122 [] { env := [(0, (.str a1)), (1, (.int .i64 a2)), (2, (.func 124 [] []))], heap := [(64, .box [(.int .i64 a3.1), (.str a3.2.1), (.int .i64 a3.2.2.1), (.bool a3.2.2.2.1), (.str a3.2.2.2.2.1), (.str a3.2.2.2.2.2)])], salt := 20 }
noncomputable abbrev lex_number_5 (a1 : List UInt8) (a2 : Int) (a3 : Int) (a4 : Int × List UInt8 × Int × Bool × List UInt8 × List UInt8) (a5 : List UInt8) (a6 : Int) (a7 : Int) : Option ((Int × List UInt8 × Int × Bool × List UInt8 × List UInt8) × Int × Int) := (top CT).stage 125 [{ f := 125, path := [0, 0, 1, 1], op := 5, rest := [6], env := [(0, (.str a5)), (1, (.int .i64 a6)), (4, (.ptr 64 0)), (7, (.int .i64 a7))], salt := 0 }] 122 [0, 0, 1, 1] { env := [(0, (.str a1)), (1, (.int .i64 a2)), (2, (.func 124 [] [])), (7, (.int .i64 a3))], heap := [(64, .box [(.int .i64 a4.1), (.str a4.2.1), (.int .i64 a4.2.2.1), (.bool a4.2.2.2.1), (.str a4.2.2.2.2.1), (.str a4.2.2.2.2.2)])], salt := 20 }
noncomputable abbrev lex_number_6 (a1 : List UInt8) (a2 : Int) (a3 : Int) (a4 : Bool) (a5 : Int × List UInt8 × Int × Bool × List UInt8 × List UInt8) (a6 : List UInt8) (a7 : Int) (a8 : Int) : Option ((Int × List UInt8 × Int × Bool × List UInt8 × List UInt8) × Int × Int) := (top CT).stage 125 [{ f := 125, path := [0, 0, 1, 1], op := 5, rest := [6], env := [(0, (.str a6)), (1, (.int .i64 a7)), (4, (.ptr 64 0)), (7, (.int .i64 a8))], salt := 0 }] 122 [1, 0, 0, 0, 0, 1, 1] { env := [(0, (.str a1)), (1, (.int .i64 a2)), (2, (.func 124 [] [])), (7, (.int .i64 a3)), (22, (.bool a4))], heap := [(64, .box [(.int .i64 a5.1), (.str a5.2.1), (.int .i64 a5.2.2.1), (.bool a5.2.2.2.1), (.str a5.2.2.2.2.1), (.str a5.2.2.2.2.2)])], salt := 20 }
noncomputable abbrev lex_number_7 (a1 : List UInt8) (a2 : Int) (a3 : Int) (a4 : Int) (a5 : Bool) (a6 : Int × List UInt8 × Int × Bool × List UInt8 × List UInt8) : Option ((Int × List UInt8 × Int × Bool × List UInt8 × List UInt8) × Int × Int) := (top CT).stage 125 [] 125 [1, 1, 0, 1, 1] { env := [(0, (.str a1)), (1, (.int .i64 a2)), (4, (.ptr 64 0)), (7, (.int .i64 a3)), (8, (.int .i64 a4)), (29, (.bool a5))], heap := [(64, .box [(.int .i64 a6.1), (.str a6.2.1), (.int .i64 a6.2.2.1), (.bool a6.2.2.2.1), (.str a6.2.2.2.2.1), (.str a6.2.2.2.2.2)])], salt := 0 }
noncomputable abbrev lex_number_8 (a1 : List UInt8) (a2 : Int) (a3 : Int) (a4 : Int × List UInt8 × Int × Bool × List UInt8 × List UInt8) : Option ((Int × List UInt8 × Int × Bool × List UInt8 × List UInt8) × Int × Int) := (top CT).stage 125 [] 125 [1, 1, 1] { env := [(0, (.str a1)), (1, (.int .i64 a2)), (4, (.ptr 64 0)), (7, (.int .i64 a3))], heap := [(64, .box [(.int .i64 a4.1), (.str a4.2.1), (.int .i64 a4.2.2.1), (.bool a4.2.2.2.1), (.str a4.2.2.2.2.1), (.str a4.2.2.2.2.2)])], salt := 0 }
noncomputable abbrev lex_text (x0 : List UInt8) (x1 : Int) : Option ((Int × List UInt8 × Int × Bool × List UInt8 × List UInt8) × Int × Int) := (top CT).callF 126 (x0, x1)
noncomputable abbrev lex_fault (x0 : List UInt8) (x1 : Int) : Option ((Int × List UInt8 × Int × Bool × List UInt8 × List UInt8) × Int × Int) := (top CT).callF 127 (x0, x1)
noncomputable abbrev lex_fault_1 (a1 : List UInt8) (a2 : Int) (a3 : List UInt8) (a4 : Int) (a5 : Int × List UInt8 × Int × Bool × List UInt8 × List UInt8) : Option ((Int × List UInt8 × Int × Bool × List UInt8 × List UInt8) × Int × Int) := (top CT).stage 127 [] 127 [0, 1, 0, 1, 1] { env := [(0, (.str a1)), (1, (.int .i64 a2)), (4, (.ptr 64 0)), (7, (.str a3)), (8, (.int .i64 a4))], heap := [(64, .box [(.int .i64 a5.1), (.str a5.2.1), (.int .i64 a5.2.2.1), (.bool a5.2.2.2.1), (.str a5.2.2.2.2.1), (.str a5.2.2.2.2.2)])], salt := 0 }
noncomputable abbrev lex_fault_2 (a1 : List UInt8) (a2 : Int) (a3 : List UInt8) (a4 : Int) (a5 : List UInt8) (a6 : Bool) (a7 : Int × List UInt8 × Int × Bool × List UInt8 × List UInt8) : Option ((Int × List UInt8 × Int × Bool × List UInt8 × List UInt8) × Int × Int) := (top CT).stage 127 [] 127 [1, 1, 0, 0, 1, 0, 0, 1, 0, 1, 1] { env := [(0, (.str a1)), (1, (.int .i64 a2)), (4, (.ptr 64 0)), (7, (.str a3)), (8, (.int .i64 a4)), (9, (.str a5)), (27, (.bool a6))], heap := [(64, .box [(.int .i64 a7.1), (.str a7.2.1), (.int .i64 a7.2.2.1), (.bool a7.2.2.2.1), (.str a7.2.2.2.2.1), (.str a7.2.2.2.2.2)])], salt := 0 }
noncomputable abbrev lex_fault_3 (a1 : List UInt8) (a2 : Int) (a3 : List UInt8) (a4 : Int) (a5 : Int × List UInt8 × Int × Bool × List UInt8 × List UInt8) : Option ((Int × List UInt8 × Int × Bool × List UInt8 × List UInt8) × Int × Int) := (top CT).stage 127 [] 127 [1, 1, 0, 0, 1, 0, 1, 1] { env := [(0, (.str a1)), (1, (.int .i64 a2)), (4, (.ptr 64 0)), (7, (.str a3)), (8, (.int .i64 a4))], heap := [(64, .box [(.int .i64 a5.1), (.str a5.2.1), (.int .i64 a5.2.2.1), (.bool a5.2.2.2.1), (.str a5.2.2.2.2.1), (.str a5.2.2.2.2.2)])], salt := 0 }
noncomputable abbrev lex_letter (x0 : Int) : Option (Bool) := (top CT).callF 128 (x0)
noncomputable abbrev lex_sign (x0 : List UInt8) : Option (Int × Int) := (top CT).callF 129 (x0)
noncomputable abbrev lex_sign_1 (a1 : List UInt8) : Option (Int × Int) := (top CT).stage 129 [] 129 [1, 0, 0, 0, 1, 0, 1] { env := [(0, (.str a1))], heap := [], salt := 0 }
noncomputable abbrev lex_sign_2 (a1 : Bool) : Option (Int × Int) := (top CT).stage 129 [] 129 [1, 1, 1, 1, 1, 1, 1, 1, 0, 0, 0, 0, 0, 0, 0, 0, 0, 0, 0, 0, 0, 0, 0, 0, 0, 0, 1, 0, 1] { env := [(20, (.bool a1))], heap := [], salt := 0 }
noncomputable abbrev lex_sign_3 (a1 : Bool) : Option (Int × Int) := (top CT).stage 129 [] 129 [1, 1, 0, 0, 0, 1, 0, 1] { env := [(38, (.bool a1))], heap := [], salt := 0 }
noncomputable abbrev abacistref11_Digit (x0 : Int) : Option (Bool) := (top CT).callF 130 (x0)
noncomputable abbrev abacistref12_number (x0 : List UInt8) (x1 : Int) : Option ((Int × List UInt8 × Int × Bool × List UInt8 × List UInt8) × Int × Int) := (top CT).callF 131 (x0, x1)
noncomputable abbrev abacistref12_number_1 (a1 : List UInt8) (a2 : Int) (a3 : Int) (a4 : Bool) (a5 : Int × List UInt8 × Int × Bool × List UInt8 × List UInt8) : Option ((Int × List UInt8 × Int × Bool × List UInt8 × List UInt8) × Int × Int) := (top CT).stage 131 [] 131 [1, 0, 1, 1] { env := [(0, (.str a1)), (1, (.int .i64 a2)), (4, (.ptr 64 0)), (7, (.int .i64 a3)), (30, (.bool a4))], heap := [(64, .box [(.int .i64 a5.1), (.str a5.2.1), (.int .i64 a5.2.2.1), (.bool a5.2.2.2.1), (.str a5.2.2.2.2.1), (.str a5.2.2.2.2.2)])], salt := 0 }
noncomputable abbrev abacistref12_number_2 (a1 : List UInt8) (a2 : Int) (a3 : Int) (a4 : Int × List UInt8 × Int × Bool × List UInt8 × List UInt8) : Option ((Int × List UInt8 × Int × Bool × List UInt8 × List UInt8) × Int × Int) := (top CT).stage 131 [] 131 [1, 1, 1] { env := [(0, (.str a1)), (1, (.int .i64 a2)), (4, (.ptr 64 0)), (7, (.int .i64 a3))], heap := [(64, .box [(.int .i64 a4.1), (.str a4.2.1), (.int .i64 a4.2.2.1), (.bool a4.2.2.2.1), (.str a4.2.2.2.2.1), (.str a4.2.2.2.2.2)])], salt := 0 }
noncomputable abbrev abacistref12_text (x0 : List UInt8) (x1 : Int) : Option ((Int × List UInt8 × Int × Bool × List UInt8 × List UInt8) × Int × Int) := (top CT).callF 132 (x0, x1)
noncomputable abbrev abacistref12_text_1 (a1 : List UInt8) (a2 : Int) (a3 : List UInt8) (a4 : Int) (a5 : Int × List UInt8 × Int × Bool × List UInt8 × List UInt8) : Option ((Int × List UInt8 × Int × Bool × List UInt8 × List UInt8) × Int × Int) := (top CT).stage 132 [] 132 [0, 1, 0, 1, 1] { env := [(0, (.str a1)), (1, (.int .i64 a2)), (4, (.ptr 64 0)), (7, (.str a3)), (8, (.int .i64 a4))], heap := [(64, .box [(.int .i64 a5.1), (.str a5.2.1), (.int .i64 a5.2.2.1), (.bool a5.2.2.2.1), (.str a5.2.2.2.2.1), (.str a5.2.2.2.2.2)])], salt := 0 }
noncomputable abbrev abacistref12_text_2 (a1 : List UInt8) (a2 : Int) (a3 : List UInt8) (a4 : Int) (a5 : Int × List UInt8 × Int × Bool × List UInt8 × List UInt8) : Option ((Int × List UInt8 × Int × Bool × List UInt8 × List UInt8) × Int × Int) := (top CT).stage 132 [] 132 [1, 1, 0, 0, 1, 0, 1, 1] { env := [(0, (.str a1)), (1, (.int .i64 a2)), (4, (.ptr 64 0)), (7, (.str a3)), (8, (.int .i64 a4))], heap := [(64, .box [(.int .i64 a5.1), (.str a5.2.1), (.int .i64 a5.2.2.1), (.bool a5.2.2.2.1), (.str a5.2.2.2.2.1), (.str a5.2.2.2.2.2)])], salt := 0 }
noncomputable abbrev abacistref12_text_3 (a1 : List UInt8) (a2 : Int) (a3 : List UInt8) (a4 : Int) (a5 : Bool) (a6 : Int × List UInt8 × Int × Bool × List UInt8 × List UInt8) : Option ((Int × List UInt8 × Int × Bool × List UInt8 × List UInt8) × Int × Int) := (top CT).stage 132 [] 132 [1, 1, 1, 0, 0, 1, 0, 0, 1, 0, 1, 1] { env := [(0, (.str a1)), (1, (.int .i64 a2)), (4, (.ptr 64 0)), (7, (.str a3)), (8, (.int .i64 a4)), (39, (.bool a5))], heap := [(64, .box [(.int .i64 a6.1), (.str a6.2.1), (.int .i64 a6.2.2.1), (.bool a6.2.2.2.1), (.str a6.2.2.2.2.1), (.str a6.2.2.2.2.2)])], salt := 0 }
noncomputable abbrev abacistref12_fault (x0 : List UInt8) (x1 : Int) : Option ((Int × List UInt8 × Int × Bool × List UInt8 × List UInt8) × Int × Int) := (top CT).callF 133 (x0, x1)
noncomputable abbrev abacistref12_fault_1 (a1 : List UInt8) (a2 : Int) (a3 : List UInt8) (a4 : Int) (a5 : Int × List UInt8 × Int × Bool × List UInt8 × List UInt8) : Option ((Int × List UInt8 × Int × Bool × List UInt8 × List UInt8) × Int × Int) := (top CT).stage 133 [] 133 [0, 1, 0, 1, 1] { env := [(0, (.str a1)), (1, (.int .i64 a2)), (4, (.ptr 64 0)), (7, (.str a3)), (8, (.int .i64 a4))], heap := [(64, .box [(.int .i64 a5.1), (.str a5.2.1), (.int .i64 a5.2.2.1), (.bool a5.2.2.2.1), (.str a5.2.2.2.2.1), (.str a5.2.2.2.2.2)])], salt := 0 }
noncomputable abbrev abacistref12_fault_2 (a1 : List UInt8) (a2 : Int) (a3 : List UInt8) (a4 : Int) (a5 : List UInt8) (a6 : Bool) (a7 : Int × List UInt8 × Int × Bool × List UInt8 × List UInt8) : Option ((Int × List UInt8 × Int × Bool × List UInt8 × List UInt8) × Int × Int) := (top CT).stage 133 [] 133 [1, 1, 0, 0, 1, 0, 0, 1, 0, 1, 1] { env := [(0, (.str a1)), (1, (.int .i64 a2)), (4, (.ptr 64 0)), (7, (.str a3)), (8, (.int .i64 a4)), (9, (.str a5)), (40, (.bool a6))], heap := [(64, .box [(.int .i64 a7.1), (.str a7.2.1), (.int .i64 a7.2.2.1), (.bool a7.2.2.2.1), (.str a7.2.2.2.2.1), (.str a7.2.2.2.2.2)])], salt := 0 }
noncomputable abbrev abacistref12_fault_3 (a1 : List UInt8) (a2 : Int) (a3 : List UInt8) (a4 : Int) (a5 : Int × List UInt8 × Int × Bool × List UInt8 × List UInt8) : Option ((Int × List UInt8 × Int × Bool × List UInt8 × List UInt8) × Int × Int) := (top CT).stage 133 [] 133 [1, 1, 0, 0, 1, 0, 1, 1] { env := [(0, (.str a1)), (1, (.int .i64 a2)), (4, (.ptr 64 0)), (7, (.str a3)), (8, (.int .i64 a4))], heap := [(64, .box [(.int .i64 a5.1), (.str a5.2.1), (.int .i64 a5.2.2.1), (.bool a5.2.2.2.1), (.str a5.2.2.2.2.1), (.str a5.2.2.2.2.2)])], salt := 0 }
noncomputable abbrev abacistref12_word (x0 : Int) : Option (Bool) := (top CT).callF 134 (x0)
noncomputable abbrev abacistref12_sign (x0 : Int) : Option (Int) := (top CT).callF 135 (x0)
noncomputable abbrev abacistref12_sign_1 (a1 : Bool) : Option (Int) := (top CT).stage 135 [] 135 [1, 1, 1, 1, 1, 1, 1, 1, 1, 1, 1, 0, 1, 1] { env := [(14, (.bool a1))], heap := [], salt := 0 }
noncomputable abbrev nat_Trim (x0 : List UInt8) : Option (List UInt8) := (top CT).callF 136 (x0)
noncomputable abbrev nat_Of (x0 : Int) : Option (List UInt8) := (top CT).callF 137 (x0)
noncomputable abbrev nat_Cmp (x0 : List UInt8) (x1 : List UInt8) : Option (Int) := (top CT).callF 144 (x0, x1)
noncomputable abbrev divide_Pow (x0 : List UInt8) (x1 : Int) : Option (List UInt8 × Int) := (top CT).callF 151 (x0, x1)
noncomputable abbrev abacistref04_well (x0 : Bool × List UInt8) : Option (Bool × List UInt8) := (top CT).callF 155 (x0)
noncomputable abbrev abacistref01_Mul (x0 : List UInt8) (x1 : List UInt8) : Option (List UInt8) := (top CT).callF 156 (x0, x1)
noncomputable abbrev abacistref01_Trim (x0 : List UInt8) : Option (List UInt8) := (top CT).callF 157 (x0)
noncomputable abbrev abacistref02_Pow (x0 : List UInt8) (x1 : Int) : Option (List UInt8 × Int) := (top CT).callF 158 (x0, x1)
noncomputable abbrev abacistref02_DivMod (x0 : List UInt8) (x1 : List UInt8) : Option (List UInt8 × List UInt8 × Int) := (top CT).callF 159 (x0, x1)
noncomputable abbrev abacistref01_Small (x0 : List UInt8) : Option (Int × Bool) := (top CT).callF 160 (x0)
noncomputable abbrev dec_often (x0 : List UInt8) (x1 : Int) : Option (Int) := (top CT).callF 161 (x0, x1)
noncomputable abbrev dec_often_1 (a1 : List UInt8) (a2 : Int) (a3 : Int) : Option (Int) := (top CT).stage 161 [] 161 [0, 0, 1, 1] { env := [(0, (.str a1)), (1, (.int .u64 a2)), (5, (.int .i64 a3))], heap := [], salt := 0 }
noncomputable abbrev dec_often_2 (a1 : Int) (a2 : Int) (a3 : List UInt8) (a4 : Bool) : Option (Int) := (top CT).stage 161 [] 161 [1, 0, 1, 0, 1, 0, 0, 0, 1, 1] { env := [(1, (.int .u64 a1)), (5, (.int .i64 a2)), (6, (.str a3)), (24, (.bool a4))], heap := [], salt := 0 }
noncomputable abbrev abacistref03_often (x0 : List UInt8) (x1 : List UInt8) : Option (Int) := (top CT).callF 162 (x0, x1)
noncomputable abbrev abacistref03_often_1 (a1 : List UInt8) (a2 : List UInt8) (a3 : Int) (a4 : Int) : Option (Int) := (top CT).stage 162 [] 162 [0, 1, 0, 1, 1] { env := [(0, (.str a1)), (1, (.str a2)), (5, (.int .i64 a3)), (6, (.int .i64 a4))], heap := [], salt := 0 }
noncomputable abbrev abacistref03_often_2 (a1 : List UInt8) (a2 : List UInt8) (a3 : Int) (a4 : Int) (a5 : Bool) : Option (Int) := (top CT).stage 162 [] 162 [1, 0, 0, 0, 1, 0, 1, 1] { env := [(0, (.str a1)), (1, (.str a2)), (5, (.int .i64 a3)), (6, (.int .i64 a4)), (15, (.bool a5))], heap := [], salt := 0 }
noncomputable abbrev internal_stringslite_CutPrefix (x0 : List UInt8) (x1 : List UInt8) : Option (List UInt8 × Bool) := (top CT).callF 163 (x0, x1)
noncomputable abbrev rat_well (x0 : Bool × List UInt8 × List UInt8) : Option (Bool × List UInt8 × List UInt8) := (top CT).callF 165 (x0)
noncomputable abbrev dec_odd (x0 : List UInt8) : Option (Bool) := (top CT).callF 166 (x0)
noncomputable abbrev dec_odd_1 (a1 : List Int) (a2 : Int) (a3 : Int) : Option (Bool) := (top CT).stage 166 [] 166 [0, 1, 0, 1] { env := [(6, (.sl (.int .u8) a1 false)), (7, (.int .i64 a2)), (8, (.int .i64 a3))], heap := [], salt := 0 }
noncomputable abbrev dec_odd_2 (a1 : List Int) (a2 : Int) (a3 : Int) (a4 : Bool) : Option (Bool) := (top CT).stage 166 [] 166 [1, 1, 0, 0, 1, 1, 0, 0, 1, 0, 1] { env := [(6, (.sl (.int .u8) a1 false)), (7, (.int .i64 a2)), (8, (.int .i64 a3)), (17, (.bool a4))], heap := [], salt := 0 }
noncomputable abbrev nat_Add (x0 : List UInt8) (x1 : List UInt8) : Option (List UInt8) := (top CT).callF 167 (x0, x1)
noncomputable abbrev divide_Gcd (x0 : List UInt8) (x1 : List UInt8) : Option (List UInt8) := (top CT).callF 168 (x0, x1)
noncomputable abbrev abacistref02_Gcd (x0 : List UInt8) (x1 : List UInt8) : Option (List UInt8) := (top CT).callF 169 (x0, x1)
noncomputable abbrev abacistref01_Add (x0 : List UInt8) (x1 : List UInt8) : Option (List UInt8) := (top CT).callF 170 (x0, x1)
noncomputable abbrev abacistref01_Of (x0 : Int) : Option (List UInt8) := (top CT).callF 171 (x0)
noncomputable abbrev abacistref01_Bits (x0 : List UInt8) : Option (Int) := (top CT).callF 172 (x0)
noncomputable abbrev abacistref04_Of (x0 : Int) : Option (Bool × List UInt8) := (top CT).callF 173 (x0)
noncomputable abbrev internal_stringslite_HasPrefix (x0 : List UInt8) (x1 : List UInt8) : Option (Bool) := (top CT).callF 174 (x0, x1)
noncomputable abbrev rat_tidy (x0 : List UInt8) : Option (Bool) := (top CT).callF 175 (x0)
noncomputable abbrev whole_Of (x0 : Int) : Option (Bool × List UInt8) := (top CT).callF 176 (x0)
noncomputable abbrev cmp_isNaN_int (x0 : Int) : Option (Bool) := (top CT).callF 177 (x0)
noncomputable abbrev whole_Cmp (x0 : Bool × List UInt8) (x1 : Bool × List UInt8) : Option (Int) := (top CT).callF 178 (x0, x1)
noncomputable abbrev whole_Cmp_1 (a1 : Int) (a2 : Bool) (a3 : Bool × List UInt8) (a4 : Bool × List UInt8) : Option (Int) := (top CT).stage 178 [] 178 [1, 0, 0, 1, 1, 1] { env := [(2, (.ptr 32 0)), (3, (.ptr 48 0)), (5, (.int .i64 a1)), (15, (.bool a2))], heap := [(32, .box [(.bool a3.1), (.str a3.2)]), (48, .box [(.bool a4.1), (.str a4.2)])], salt := 0 }
noncomputable abbrev rat_crossed (x0 : Bool × List UInt8 × List UInt8) (x1 : Bool × List UInt8 × List UInt8) : Option ((Bool × List UInt8) × Bool × List UInt8) := (top CT).callF 179 (x0, x1)
noncomputable abbrev cmp_isNaN_string (x0 : List UInt8) : Option (Bool) := (top CT).callF 180 (x0)
noncomputable abbrev cmp_isNaN_int64 (x0 : Int) : Option (Bool) := (top CT).callF 181 (x0)
noncomputable abbrev abacistref01_Cmp (x0 : List UInt8) (x1 : List UInt8) : Option (Int) := (top CT).callF 182 (x0, x1)
noncomputable abbrev abacistref12_digits (x0 : List UInt8) (x1 : Int) : Option (Int) := (top CT).callF 184 (x0, x1)
noncomputable abbrev abacistref12_digits_1 (a1 : List UInt8) (a2 : Int) : Option (Int) := (top CT).stage 184 [] 184 [0, 0, 1] { env := [(0, (.str a1)), (1, (.int .i64 a2))], heap := [], salt := 0 }
noncomputable abbrev abacistref12_digits_2 (a1 : List UInt8) (a2 : Int) (a3 : Bool) : Option (Int) := (top CT).stage 184 [] 184 [1, 0, 0, 0, 0, 1] { env := [(0, (.str a1)), (1, (.int .i64 a2)), (14, (.bool a3))], heap := [], salt := 0 }
noncomputable abbrev abacistref11_Letter (x0 : Int) : Option (Bool) := (top CT).callF 185 (x0)
noncomputable abbrev whole_well (x0 : Bool × List UInt8) : Option (Bool × List UInt8) := (top CT).callF 212 (x0)
noncomputable abbrev rat_top (x0 : Bool × List UInt8 × List UInt8) : Option (Bool × List UInt8) := (top CT).callF 213 (x0)
noncomputable abbrev whole_Mul (x0 : Bool × List UInt8) (x1 : Bool × List UInt8) : Option (Bool × List UInt8) := (top CT).callF 214 (x0, x1)
noncomputable abbrev rat_low (x0 : Bool × List UInt8 × List UInt8) : Option (Bool × List UInt8) := (top CT).callF 215 (x0)
end Go.Proofs.YtenapomineinbaaGreatDoor.K

/- The tables are the program's own. -/
set_option linter.unusedVariables false
set_option maxRecDepth 100000
namespace Go.Proofs.YtenapomineinbaaGreatDoor.K
open Go
theorem look_all {α : Type} {Q : Nat → α → Prop} : ∀ {l : List (Nat × α)}, (∀ p ∈ l, Q p.1 p.2) → ∀ t v, look l t = some v → Q t v
  | [], _, t, v, h => by cases h
  | (u, x) :: l, hl, t, v, h => by
    simp only [look] at h
    split at h
    · rename_i hb
      have := Nat.eq_of_beq_eq_true hb
      subst this
      cases h
      exact hl _ (List.mem_cons_self ..)
    · exact look_all (fun p hp => hl p (List.mem_cons_of_mem _ hp)) t v h
theorem all_nil {α : Type} {Q : Nat → α → Prop} : ∀ p ∈ ([] : List (Nat × α)), Q p.1 p.2 := fun p h => by cases h
theorem all_cons {α : Type} {Q : Nat → α → Prop} {u : Nat} {x : α} {l : List (Nat × α)} (h : Q u x) (hl : ∀ p ∈ l, Q p.1 p.2) : ∀ p ∈ (u, x) :: l, Q p.1 p.2 := fun p hp => by
  rcases List.mem_cons.1 hp with rfl | hp
  · exact h
  · exact hl p hp
theorem tiok2 : TIok Tryz.prog 2 ti2 := ⟨by kernel_rfl, by kernel_rfl, by kernel_rfl, by kernel_rfl, by kernel_rfl, by kernel_rfl, by kernel_rfl, by kernel_rfl, ⟨by kernel_rfl, by kernel_rfl, by kernel_rfl⟩, fun h => by cases h⟩
theorem tiok3 : TIok Tryz.prog 3 ti3 := ⟨by kernel_rfl, by kernel_rfl, by kernel_rfl, by kernel_rfl, by kernel_rfl, by kernel_rfl, by kernel_rfl, by kernel_rfl, ⟨by kernel_rfl, by kernel_rfl, by kernel_rfl⟩, fun h => by cases h⟩
theorem tiok4 : TIok Tryz.prog 4 ti4 := ⟨by kernel_rfl, by kernel_rfl, by kernel_rfl, by kernel_rfl, by kernel_rfl, by kernel_rfl, by kernel_rfl, by kernel_rfl, ⟨by kernel_rfl, by kernel_rfl, by kernel_rfl⟩, fun h => by cases h⟩
theorem tiok5 : TIok Tryz.prog 5 ti5 := ⟨by kernel_rfl, by kernel_rfl, by kernel_rfl, by kernel_rfl, by kernel_rfl, by kernel_rfl, by kernel_rfl, by kernel_rfl, ⟨by kernel_rfl, by kernel_rfl, by kernel_rfl⟩, fun h => by cases h⟩
theorem tiok9 : TIok Tryz.prog 9 ti9 := ⟨by kernel_rfl, by kernel_rfl, by kernel_rfl, by kernel_rfl, by kernel_rfl, by kernel_rfl, by kernel_rfl, by kernel_rfl, ⟨by kernel_rfl, by kernel_rfl, by kernel_rfl⟩, fun h => by cases h⟩
theorem tiok23 : TIok Tryz.prog 23 ti23 := ⟨by kernel_rfl, by kernel_rfl, by kernel_rfl, by kernel_rfl, by kernel_rfl, by kernel_rfl, by kernel_rfl, by kernel_rfl, ⟨by kernel_rfl, by kernel_rfl, by kernel_rfl⟩, fun _ => eq_fits (by kernel_rfl) (by kernel_rfl)⟩
theorem tiok37 : TIok Tryz.prog 37 ti37 := ⟨by kernel_rfl, by kernel_rfl, by kernel_rfl, by kernel_rfl, by kernel_rfl, by kernel_rfl, by kernel_rfl, by kernel_rfl, ⟨by kernel_rfl, by kernel_rfl, by kernel_rfl⟩, fun _ => eq_fits (by kernel_rfl) (by kernel_rfl)⟩
theorem tiok57 : TIok Tryz.prog 57 ti57 := ⟨by kernel_rfl, by kernel_rfl, by kernel_rfl, by kernel_rfl, by kernel_rfl, by kernel_rfl, by kernel_rfl, by kernel_rfl, ⟨by kernel_rfl, by kernel_rfl, by kernel_rfl⟩, fun h => by cases h⟩
theorem tiok68 : TIok Tryz.prog 68 ti68 := ⟨by kernel_rfl, by kernel_rfl, by kernel_rfl, by kernel_rfl, by kernel_rfl, by kernel_rfl, by kernel_rfl, by kernel_rfl, ⟨by kernel_rfl, by kernel_rfl, by kernel_rfl⟩, fun h => by cases h⟩
theorem tiok71 : TIok Tryz.prog 71 ti71 := ⟨by kernel_rfl, by kernel_rfl, by kernel_rfl, by kernel_rfl, by kernel_rfl, by kernel_rfl, by kernel_rfl, by kernel_rfl, ⟨by kernel_rfl, by kernel_rfl, by kernel_rfl⟩, fun _ => eq_fits (by kernel_rfl) (by kernel_rfl)⟩
theorem tiok74 : TIok Tryz.prog 74 ti74 := ⟨by kernel_rfl, by kernel_rfl, by kernel_rfl, by kernel_rfl, by kernel_rfl, by kernel_rfl, by kernel_rfl, by kernel_rfl, ⟨by kernel_rfl, by kernel_rfl, by kernel_rfl⟩, fun h => by cases h⟩
theorem tiok77 : TIok Tryz.prog 77 ti77 := ⟨by kernel_rfl, by kernel_rfl, by kernel_rfl, by kernel_rfl, by kernel_rfl, by kernel_rfl, by kernel_rfl, by kernel_rfl, ⟨by kernel_rfl, by kernel_rfl, by kernel_rfl⟩, fun h => by cases h⟩
theorem tiok88 : TIok Tryz.prog 88 ti88 := ⟨by kernel_rfl, by kernel_rfl, by kernel_rfl, by kernel_rfl, by kernel_rfl, by kernel_rfl, by kernel_rfl, by kernel_rfl, ⟨by kernel_rfl, by kernel_rfl, by kernel_rfl⟩, fun h => by cases h⟩
theorem tiok91 : TIok Tryz.prog 91 ti91 := ⟨by kernel_rfl, by kernel_rfl, by kernel_rfl, by kernel_rfl, by kernel_rfl, by kernel_rfl, by kernel_rfl, by kernel_rfl, ⟨by kernel_rfl, by kernel_rfl, by kernel_rfl⟩, fun h => by cases h⟩
theorem tiok107 : TIok Tryz.prog 107 ti107 := ⟨by kernel_rfl, by kernel_rfl, by kernel_rfl, by kernel_rfl, by kernel_rfl, by kernel_rfl, by kernel_rfl, by kernel_rfl, trivial, fun h => by cases h⟩
theorem tiok109 : TIok Tryz.prog 109 ti109 := ⟨by kernel_rfl, by kernel_rfl, by kernel_rfl, by kernel_rfl, by kernel_rfl, by kernel_rfl, by kernel_rfl, by kernel_rfl, ⟨by kernel_rfl, by kernel_rfl, by kernel_rfl⟩, fun h => by cases h⟩
theorem tiok113 : TIok Tryz.prog 113 ti113 := ⟨by kernel_rfl, by kernel_rfl, by kernel_rfl, by kernel_rfl, by kernel_rfl, by kernel_rfl, by kernel_rfl, by kernel_rfl, ⟨by kernel_rfl, by kernel_rfl, by kernel_rfl⟩, fun h => by cases h⟩
theorem tiok131 : TIok Tryz.prog 131 ti131 := ⟨by kernel_rfl, by kernel_rfl, by kernel_rfl, by kernel_rfl, by kernel_rfl, by kernel_rfl, by kernel_rfl, by kernel_rfl, ⟨by kernel_rfl, by kernel_rfl, by kernel_rfl⟩, fun h => by cases h⟩
theorem tiok161 : TIok Tryz.prog 161 ti161 := ⟨by kernel_rfl, by kernel_rfl, by kernel_rfl, by kernel_rfl, by kernel_rfl, by kernel_rfl, by kernel_rfl, by kernel_rfl, ⟨by kernel_rfl, by kernel_rfl, by kernel_rfl⟩, fun h => by cases h⟩
theorem tis_ok : CtxTI Tryz.prog CT := look_all (l := tis) (all_cons tiok2 (all_cons tiok3 (all_cons tiok4 (all_cons tiok5 (all_cons tiok9 (all_cons tiok23 (all_cons tiok37 (all_cons tiok57 (all_cons tiok68 (all_cons tiok71 (all_cons tiok74 (all_cons tiok77 (all_cons tiok88 (all_cons tiok91 (all_cons tiok107 (all_cons tiok109 (all_cons tiok113 (all_cons tiok131 (all_cons tiok161 all_nil)))))))))))))))))))
def FnOk (f : Nat) (fn : Func) : Prop := Tryz.prog.funcs[f]? = some fn ∧ fn.body.isSome = true ∧ (fn.name == "runtime.NumGoroutine") = false
def ParOk (i : Nat) (fn : Func) : Prop := ((look ptsL i).getD []).length ≤ fn.ntmps
theorem fnok102 : FnOk 102 Tryz.f102 := ⟨Tryz.func102, by kernel_rfl, by kernel_rfl⟩
theorem parok102 : ParOk 102 Tryz.f102 := Nat.le_of_ble_eq_true (by kernel_rfl)
theorem fnok106 : FnOk 106 Tryz.f106 := ⟨Tryz.func106, by kernel_rfl, by kernel_rfl⟩
theorem parok106 : ParOk 106 Tryz.f106 := Nat.le_of_ble_eq_true (by kernel_rfl)
theorem fnok122 : FnOk 122 Tryz.f122 := ⟨Tryz.func122, by kernel_rfl, by kernel_rfl⟩
theorem parok122 : ParOk 122 Tryz.f122 := Nat.le_of_ble_eq_true (by kernel_rfl)
theorem fnok123 : FnOk 123 Tryz.f123 := ⟨Tryz.func123, by kernel_rfl, by kernel_rfl⟩
theorem parok123 : ParOk 123 Tryz.f123 := Nat.le_of_ble_eq_true (by kernel_rfl)
theorem fnok3 : FnOk 3 Tryz.f3 := ⟨Tryz.func3, by kernel_rfl, by kernel_rfl⟩
theorem parok3 : ParOk 3 Tryz.f3 := Nat.le_of_ble_eq_true (by kernel_rfl)
theorem fnok4 : FnOk 4 Tryz.f4 := ⟨Tryz.func4, by kernel_rfl, by kernel_rfl⟩
theorem parok4 : ParOk 4 Tryz.f4 := Nat.le_of_ble_eq_true (by kernel_rfl)
theorem fnok5 : FnOk 5 Tryz.f5 := ⟨Tryz.func5, by kernel_rfl, by kernel_rfl⟩
theorem parok5 : ParOk 5 Tryz.f5 := Nat.le_of_ble_eq_true (by kernel_rfl)
theorem fnok6 : FnOk 6 Tryz.f6 := ⟨Tryz.func6, by kernel_rfl, by kernel_rfl⟩
theorem parok6 : ParOk 6 Tryz.f6 := Nat.le_of_ble_eq_true (by kernel_rfl)
theorem fnok8 : FnOk 8 Tryz.f8 := ⟨Tryz.func8, by kernel_rfl, by kernel_rfl⟩
theorem parok8 : ParOk 8 Tryz.f8 := Nat.le_of_ble_eq_true (by kernel_rfl)
theorem fnok9 : FnOk 9 Tryz.f9 := ⟨Tryz.func9, by kernel_rfl, by kernel_rfl⟩
theorem parok9 : ParOk 9 Tryz.f9 := Nat.le_of_ble_eq_true (by kernel_rfl)
theorem fnok10 : FnOk 10 Tryz.f10 := ⟨Tryz.func10, by kernel_rfl, by kernel_rfl⟩
theorem parok10 : ParOk 10 Tryz.f10 := Nat.le_of_ble_eq_true (by kernel_rfl)
theorem fnok11 : FnOk 11 Tryz.f11 := ⟨Tryz.func11, by kernel_rfl, by kernel_rfl⟩
theorem parok11 : ParOk 11 Tryz.f11 := Nat.le_of_ble_eq_true (by kernel_rfl)
theorem fnok12 : FnOk 12 Tryz.f12 := ⟨Tryz.func12, by kernel_rfl, by kernel_rfl⟩
theorem parok12 : ParOk 12 Tryz.f12 := Nat.le_of_ble_eq_true (by kernel_rfl)
theorem fnok13 : FnOk 13 Tryz.f13 := ⟨Tryz.func13, by kernel_rfl, by kernel_rfl⟩
theorem parok13 : ParOk 13 Tryz.f13 := Nat.le_of_ble_eq_true (by kernel_rfl)
theorem fnok14 : FnOk 14 Tryz.f14 := ⟨Tryz.func14, by kernel_rfl, by kernel_rfl⟩
theorem parok14 : ParOk 14 Tryz.f14 := Nat.le_of_ble_eq_true (by kernel_rfl)
theorem fnok15 : FnOk 15 Tryz.f15 := ⟨Tryz.func15, by kernel_rfl, by kernel_rfl⟩
theorem parok15 : ParOk 15 Tryz.f15 := Nat.le_of_ble_eq_true (by kernel_rfl)
theorem fnok16 : FnOk 16 Tryz.f16 := ⟨Tryz.func16, by kernel_rfl, by kernel_rfl⟩
theorem parok16 : ParOk 16 Tryz.f16 := Nat.le_of_ble_eq_true (by kernel_rfl)
theorem fnok17 : FnOk 17 Tryz.f17 := ⟨Tryz.func17, by kernel_rfl, by kernel_rfl⟩
theorem parok17 : ParOk 17 Tryz.f17 := Nat.le_of_ble_eq_true (by kernel_rfl)
theorem fnok18 : FnOk 18 Tryz.f18 := ⟨Tryz.func18, by kernel_rfl, by kernel_rfl⟩
theorem parok18 : ParOk 18 Tryz.f18 := Nat.le_of_ble_eq_true (by kernel_rfl)
theorem fnok19 : FnOk 19 Tryz.f19 := ⟨Tryz.func19, by kernel_rfl, by kernel_rfl⟩
theorem parok19 : ParOk 19 Tryz.f19 := Nat.le_of_ble_eq_true (by kernel_rfl)
theorem fnok20 : FnOk 20 Tryz.f20 := ⟨Tryz.func20, by kernel_rfl, by kernel_rfl⟩
theorem parok20 : ParOk 20 Tryz.f20 := Nat.le_of_ble_eq_true (by kernel_rfl)
theorem fnok21 : FnOk 21 Tryz.f21 := ⟨Tryz.func21, by kernel_rfl, by kernel_rfl⟩
theorem parok21 : ParOk 21 Tryz.f21 := Nat.le_of_ble_eq_true (by kernel_rfl)
theorem fnok22 : FnOk 22 Tryz.f22 := ⟨Tryz.func22, by kernel_rfl, by kernel_rfl⟩
theorem parok22 : ParOk 22 Tryz.f22 := Nat.le_of_ble_eq_true (by kernel_rfl)
theorem fnok23 : FnOk 23 Tryz.f23 := ⟨Tryz.func23, by kernel_rfl, by kernel_rfl⟩
theorem parok23 : ParOk 23 Tryz.f23 := Nat.le_of_ble_eq_true (by kernel_rfl)
theorem fnok24 : FnOk 24 Tryz.f24 := ⟨Tryz.func24, by kernel_rfl, by kernel_rfl⟩
theorem parok24 : ParOk 24 Tryz.f24 := Nat.le_of_ble_eq_true (by kernel_rfl)
theorem fnok25 : FnOk 25 Tryz.f25 := ⟨Tryz.func25, by kernel_rfl, by kernel_rfl⟩
theorem parok25 : ParOk 25 Tryz.f25 := Nat.le_of_ble_eq_true (by kernel_rfl)
theorem fnok26 : FnOk 26 Tryz.f26 := ⟨Tryz.func26, by kernel_rfl, by kernel_rfl⟩
theorem parok26 : ParOk 26 Tryz.f26 := Nat.le_of_ble_eq_true (by kernel_rfl)
theorem fnok27 : FnOk 27 Tryz.f27 := ⟨Tryz.func27, by kernel_rfl, by kernel_rfl⟩
theorem parok27 : ParOk 27 Tryz.f27 := Nat.le_of_ble_eq_true (by kernel_rfl)
theorem fnok28 : FnOk 28 Tryz.f28 := ⟨Tryz.func28, by kernel_rfl, by kernel_rfl⟩
theorem parok28 : ParOk 28 Tryz.f28 := Nat.le_of_ble_eq_true (by kernel_rfl)
theorem fnok29 : FnOk 29 Tryz.f29 := ⟨Tryz.func29, by kernel_rfl, by kernel_rfl⟩
theorem parok29 : ParOk 29 Tryz.f29 := Nat.le_of_ble_eq_true (by kernel_rfl)
theorem fnok30 : FnOk 30 Tryz.f30 := ⟨Tryz.func30, by kernel_rfl, by kernel_rfl⟩
theorem parok30 : ParOk 30 Tryz.f30 := Nat.le_of_ble_eq_true (by kernel_rfl)
theorem fnok31 : FnOk 31 Tryz.f31 := ⟨Tryz.func31, by kernel_rfl, by kernel_rfl⟩
theorem parok31 : ParOk 31 Tryz.f31 := Nat.le_of_ble_eq_true (by kernel_rfl)
theorem fnok32 : FnOk 32 Tryz.f32 := ⟨Tryz.func32, by kernel_rfl, by kernel_rfl⟩
theorem parok32 : ParOk 32 Tryz.f32 := Nat.le_of_ble_eq_true (by kernel_rfl)
theorem fnok33 : FnOk 33 Tryz.f33 := ⟨Tryz.func33, by kernel_rfl, by kernel_rfl⟩
theorem parok33 : ParOk 33 Tryz.f33 := Nat.le_of_ble_eq_true (by kernel_rfl)
theorem fnok34 : FnOk 34 Tryz.f34 := ⟨Tryz.func34, by kernel_rfl, by kernel_rfl⟩
theorem parok34 : ParOk 34 Tryz.f34 := Nat.le_of_ble_eq_true (by kernel_rfl)
theorem fnok35 : FnOk 35 Tryz.f35 := ⟨Tryz.func35, by kernel_rfl, by kernel_rfl⟩
theorem parok35 : ParOk 35 Tryz.f35 := Nat.le_of_ble_eq_true (by kernel_rfl)
theorem fnok36 : FnOk 36 Tryz.f36 := ⟨Tryz.func36, by kernel_rfl, by kernel_rfl⟩
theorem parok36 : ParOk 36 Tryz.f36 := Nat.le_of_ble_eq_true (by kernel_rfl)
theorem fnok37 : FnOk 37 Tryz.f37 := ⟨Tryz.func37, by kernel_rfl, by kernel_rfl⟩
theorem parok37 : ParOk 37 Tryz.f37 := Nat.le_of_ble_eq_true (by kernel_rfl)
theorem fnok38 : FnOk 38 Tryz.f38 := ⟨Tryz.func38, by kernel_rfl, by kernel_rfl⟩
theorem parok38 : ParOk 38 Tryz.f38 := Nat.le_of_ble_eq_true (by kernel_rfl)
theorem fnok39 : FnOk 39 Tryz.f39 := ⟨Tryz.func39, by kernel_rfl, by kernel_rfl⟩
theorem parok39 : ParOk 39 Tryz.f39 := Nat.le_of_ble_eq_true (by kernel_rfl)
theorem fnok40 : FnOk 40 Tryz.f40 := ⟨Tryz.func40, by kernel_rfl, by kernel_rfl⟩
theorem parok40 : ParOk 40 Tryz.f40 := Nat.le_of_ble_eq_true (by kernel_rfl)
theorem fnok41 : FnOk 41 Tryz.f41 := ⟨Tryz.func41, by kernel_rfl, by kernel_rfl⟩
theorem parok41 : ParOk 41 Tryz.f41 := Nat.le_of_ble_eq_true (by kernel_rfl)
theorem fnok42 : FnOk 42 Tryz.f42 := ⟨Tryz.func42, by kernel_rfl, by kernel_rfl⟩
theorem parok42 : ParOk 42 Tryz.f42 := Nat.le_of_ble_eq_true (by kernel_rfl)
theorem fnok43 : FnOk 43 Tryz.f43 := ⟨Tryz.func43, by kernel_rfl, by kernel_rfl⟩
theorem parok43 : ParOk 43 Tryz.f43 := Nat.le_of_ble_eq_true (by kernel_rfl)
theorem fnok44 : FnOk 44 Tryz.f44 := ⟨Tryz.func44, by kernel_rfl, by kernel_rfl⟩
theorem parok44 : ParOk 44 Tryz.f44 := Nat.le_of_ble_eq_true (by kernel_rfl)
theorem fnok45 : FnOk 45 Tryz.f45 := ⟨Tryz.func45, by kernel_rfl, by kernel_rfl⟩
theorem parok45 : ParOk 45 Tryz.f45 := Nat.le_of_ble_eq_true (by kernel_rfl)
theorem fnok46 : FnOk 46 Tryz.f46 := ⟨Tryz.func46, by kernel_rfl, by kernel_rfl⟩
theorem parok46 : ParOk 46 Tryz.f46 := Nat.le_of_ble_eq_true (by kernel_rfl)
theorem fnok47 : FnOk 47 Tryz.f47 := ⟨Tryz.func47, by kernel_rfl, by kernel_rfl⟩
theorem parok47 : ParOk 47 Tryz.f47 := Nat.le_of_ble_eq_true (by kernel_rfl)
theorem fnok49 : FnOk 49 Tryz.f49 := ⟨Tryz.func49, by kernel_rfl, by kernel_rfl⟩
theorem parok49 : ParOk 49 Tryz.f49 := Nat.le_of_ble_eq_true (by kernel_rfl)
theorem fnok51 : FnOk 51 Tryz.f51 := ⟨Tryz.func51, by kernel_rfl, by kernel_rfl⟩
theorem parok51 : ParOk 51 Tryz.f51 := Nat.le_of_ble_eq_true (by kernel_rfl)
theorem fnok52 : FnOk 52 Tryz.f52 := ⟨Tryz.func52, by kernel_rfl, by kernel_rfl⟩
theorem parok52 : ParOk 52 Tryz.f52 := Nat.le_of_ble_eq_true (by kernel_rfl)
theorem fnok53 : FnOk 53 Tryz.f53 := ⟨Tryz.func53, by kernel_rfl, by kernel_rfl⟩
theorem parok53 : ParOk 53 Tryz.f53 := Nat.le_of_ble_eq_true (by kernel_rfl)
theorem fnok54 : FnOk 54 Tryz.f54 := ⟨Tryz.func54, by kernel_rfl, by kernel_rfl⟩
theorem parok54 : ParOk 54 Tryz.f54 := Nat.le_of_ble_eq_true (by kernel_rfl)
theorem fnok55 : FnOk 55 Tryz.f55 := ⟨Tryz.func55, by kernel_rfl, by kernel_rfl⟩
theorem parok55 : ParOk 55 Tryz.f55 := Nat.le_of_ble_eq_true (by kernel_rfl)
theorem fnok56 : FnOk 56 Tryz.f56 := ⟨Tryz.func56, by kernel_rfl, by kernel_rfl⟩
theorem parok56 : ParOk 56 Tryz.f56 := Nat.le_of_ble_eq_true (by kernel_rfl)
theorem fnok57 : FnOk 57 Tryz.f57 := ⟨Tryz.func57, by kernel_rfl, by kernel_rfl⟩
theorem parok57 : ParOk 57 Tryz.f57 := Nat.le_of_ble_eq_true (by kernel_rfl)
theorem fnok58 : FnOk 58 Tryz.f58 := ⟨Tryz.func58, by kernel_rfl, by kernel_rfl⟩
theorem parok58 : ParOk 58 Tryz.f58 := Nat.le_of_ble_eq_true (by kernel_rfl)
theorem fnok59 : FnOk 59 Tryz.f59 := ⟨Tryz.func59, by kernel_rfl, by kernel_rfl⟩
theorem parok59 : ParOk 59 Tryz.f59 := Nat.le_of_ble_eq_true (by kernel_rfl)
theorem fnok60 : FnOk 60 Tryz.f60 := ⟨Tryz.func60, by kernel_rfl, by kernel_rfl⟩
theorem parok60 : ParOk 60 Tryz.f60 := Nat.le_of_ble_eq_true (by kernel_rfl)
theorem fnok61 : FnOk 61 Tryz.f61 := ⟨Tryz.func61, by kernel_rfl, by kernel_rfl⟩
theorem parok61 : ParOk 61 Tryz.f61 := Nat.le_of_ble_eq_true (by kernel_rfl)
theorem fnok62 : FnOk 62 Tryz.f62 := ⟨Tryz.func62, by kernel_rfl, by kernel_rfl⟩
theorem parok62 : ParOk 62 Tryz.f62 := Nat.le_of_ble_eq_true (by kernel_rfl)
theorem fnok63 : FnOk 63 Tryz.f63 := ⟨Tryz.func63, by kernel_rfl, by kernel_rfl⟩
theorem parok63 : ParOk 63 Tryz.f63 := Nat.le_of_ble_eq_true (by kernel_rfl)
theorem fnok64 : FnOk 64 Tryz.f64 := ⟨Tryz.func64, by kernel_rfl, by kernel_rfl⟩
theorem parok64 : ParOk 64 Tryz.f64 := Nat.le_of_ble_eq_true (by kernel_rfl)
theorem fnok65 : FnOk 65 Tryz.f65 := ⟨Tryz.func65, by kernel_rfl, by kernel_rfl⟩
theorem parok65 : ParOk 65 Tryz.f65 := Nat.le_of_ble_eq_true (by kernel_rfl)
theorem fnok66 : FnOk 66 Tryz.f66 := ⟨Tryz.func66, by kernel_rfl, by kernel_rfl⟩
theorem parok66 : ParOk 66 Tryz.f66 := Nat.le_of_ble_eq_true (by kernel_rfl)
theorem fnok67 : FnOk 67 Tryz.f67 := ⟨Tryz.func67, by kernel_rfl, by kernel_rfl⟩
theorem parok67 : ParOk 67 Tryz.f67 := Nat.le_of_ble_eq_true (by kernel_rfl)
theorem fnok68 : FnOk 68 Tryz.f68 := ⟨Tryz.func68, by kernel_rfl, by kernel_rfl⟩
theorem parok68 : ParOk 68 Tryz.f68 := Nat.le_of_ble_eq_true (by kernel_rfl)
theorem fnok69 : FnOk 69 Tryz.f69 := ⟨Tryz.func69, by kernel_rfl, by kernel_rfl⟩
theorem parok69 : ParOk 69 Tryz.f69 := Nat.le_of_ble_eq_true (by kernel_rfl)
theorem fnok70 : FnOk 70 Tryz.f70 := ⟨Tryz.func70, by kernel_rfl, by kernel_rfl⟩
theorem parok70 : ParOk 70 Tryz.f70 := Nat.le_of_ble_eq_true (by kernel_rfl)
theorem fnok71 : FnOk 71 Tryz.f71 := ⟨Tryz.func71, by kernel_rfl, by kernel_rfl⟩
theorem parok71 : ParOk 71 Tryz.f71 := Nat.le_of_ble_eq_true (by kernel_rfl)
theorem fnok72 : FnOk 72 Tryz.f72 := ⟨Tryz.func72, by kernel_rfl, by kernel_rfl⟩
theorem parok72 : ParOk 72 Tryz.f72 := Nat.le_of_ble_eq_true (by kernel_rfl)
theorem fnok73 : FnOk 73 Tryz.f73 := ⟨Tryz.func73, by kernel_rfl, by kernel_rfl⟩
theorem parok73 : ParOk 73 Tryz.f73 := Nat.le_of_ble_eq_true (by kernel_rfl)
theorem fnok74 : FnOk 74 Tryz.f74 := ⟨Tryz.func74, by kernel_rfl, by kernel_rfl⟩
theorem parok74 : ParOk 74 Tryz.f74 := Nat.le_of_ble_eq_true (by kernel_rfl)
theorem fnok75 : FnOk 75 Tryz.f75 := ⟨Tryz.func75, by kernel_rfl, by kernel_rfl⟩
theorem parok75 : ParOk 75 Tryz.f75 := Nat.le_of_ble_eq_true (by kernel_rfl)
theorem fnok76 : FnOk 76 Tryz.f76 := ⟨Tryz.func76, by kernel_rfl, by kernel_rfl⟩
theorem parok76 : ParOk 76 Tryz.f76 := Nat.le_of_ble_eq_true (by kernel_rfl)
theorem fnok77 : FnOk 77 Tryz.f77 := ⟨Tryz.func77, by kernel_rfl, by kernel_rfl⟩
theorem parok77 : ParOk 77 Tryz.f77 := Nat.le_of_ble_eq_true (by kernel_rfl)
theorem fnok78 : FnOk 78 Tryz.f78 := ⟨Tryz.func78, by kernel_rfl, by kernel_rfl⟩
theorem parok78 : ParOk 78 Tryz.f78 := Nat.le_of_ble_eq_true (by kernel_rfl)
theorem fnok79 : FnOk 79 Tryz.f79 := ⟨Tryz.func79, by kernel_rfl, by kernel_rfl⟩
theorem parok79 : ParOk 79 Tryz.f79 := Nat.le_of_ble_eq_true (by kernel_rfl)
theorem fnok80 : FnOk 80 Tryz.f80 := ⟨Tryz.func80, by kernel_rfl, by kernel_rfl⟩
theorem parok80 : ParOk 80 Tryz.f80 := Nat.le_of_ble_eq_true (by kernel_rfl)
theorem fnok81 : FnOk 81 Tryz.f81 := ⟨Tryz.func81, by kernel_rfl, by kernel_rfl⟩
theorem parok81 : ParOk 81 Tryz.f81 := Nat.le_of_ble_eq_true (by kernel_rfl)
theorem fnok82 : FnOk 82 Tryz.f82 := ⟨Tryz.func82, by kernel_rfl, by kernel_rfl⟩
theorem parok82 : ParOk 82 Tryz.f82 := Nat.le_of_ble_eq_true (by kernel_rfl)
theorem fnok83 : FnOk 83 Tryz.f83 := ⟨Tryz.func83, by kernel_rfl, by kernel_rfl⟩
theorem parok83 : ParOk 83 Tryz.f83 := Nat.le_of_ble_eq_true (by kernel_rfl)
theorem fnok84 : FnOk 84 Tryz.f84 := ⟨Tryz.func84, by kernel_rfl, by kernel_rfl⟩
theorem parok84 : ParOk 84 Tryz.f84 := Nat.le_of_ble_eq_true (by kernel_rfl)
theorem fnok85 : FnOk 85 Tryz.f85 := ⟨Tryz.func85, by kernel_rfl, by kernel_rfl⟩
theorem parok85 : ParOk 85 Tryz.f85 := Nat.le_of_ble_eq_true (by kernel_rfl)
theorem fnok86 : FnOk 86 Tryz.f86 := ⟨Tryz.func86, by kernel_rfl, by kernel_rfl⟩
theorem parok86 : ParOk 86 Tryz.f86 := Nat.le_of_ble_eq_true (by kernel_rfl)
theorem fnok87 : FnOk 87 Tryz.f87 := ⟨Tryz.func87, by kernel_rfl, by kernel_rfl⟩
theorem parok87 : ParOk 87 Tryz.f87 := Nat.le_of_ble_eq_true (by kernel_rfl)
theorem fnok88 : FnOk 88 Tryz.f88 := ⟨Tryz.func88, by kernel_rfl, by kernel_rfl⟩
theorem parok88 : ParOk 88 Tryz.f88 := Nat.le_of_ble_eq_true (by kernel_rfl)
theorem fnok89 : FnOk 89 Tryz.f89 := ⟨Tryz.func89, by kernel_rfl, by kernel_rfl⟩
theorem parok89 : ParOk 89 Tryz.f89 := Nat.le_of_ble_eq_true (by kernel_rfl)
theorem fnok90 : FnOk 90 Tryz.f90 := ⟨Tryz.func90, by kernel_rfl, by kernel_rfl⟩
theorem parok90 : ParOk 90 Tryz.f90 := Nat.le_of_ble_eq_true (by kernel_rfl)
theorem fnok91 : FnOk 91 Tryz.f91 := ⟨Tryz.func91, by kernel_rfl, by kernel_rfl⟩
theorem parok91 : ParOk 91 Tryz.f91 := Nat.le_of_ble_eq_true (by kernel_rfl)
theorem fnok92 : FnOk 92 Tryz.f92 := ⟨Tryz.func92, by kernel_rfl, by kernel_rfl⟩
theorem parok92 : ParOk 92 Tryz.f92 := Nat.le_of_ble_eq_true (by kernel_rfl)
theorem fnok93 : FnOk 93 Tryz.f93 := ⟨Tryz.func93, by kernel_rfl, by kernel_rfl⟩
theorem parok93 : ParOk 93 Tryz.f93 := Nat.le_of_ble_eq_true (by kernel_rfl)
theorem fnok94 : FnOk 94 Tryz.f94 := ⟨Tryz.func94, by kernel_rfl, by kernel_rfl⟩
theorem parok94 : ParOk 94 Tryz.f94 := Nat.le_of_ble_eq_true (by kernel_rfl)
theorem fnok95 : FnOk 95 Tryz.f95 := ⟨Tryz.func95, by kernel_rfl, by kernel_rfl⟩
theorem parok95 : ParOk 95 Tryz.f95 := Nat.le_of_ble_eq_true (by kernel_rfl)
theorem fnok96 : FnOk 96 Tryz.f96 := ⟨Tryz.func96, by kernel_rfl, by kernel_rfl⟩
theorem parok96 : ParOk 96 Tryz.f96 := Nat.le_of_ble_eq_true (by kernel_rfl)
theorem fnok97 : FnOk 97 Tryz.f97 := ⟨Tryz.func97, by kernel_rfl, by kernel_rfl⟩
theorem parok97 : ParOk 97 Tryz.f97 := Nat.le_of_ble_eq_true (by kernel_rfl)
theorem fnok98 : FnOk 98 Tryz.f98 := ⟨Tryz.func98, by kernel_rfl, by kernel_rfl⟩
theorem parok98 : ParOk 98 Tryz.f98 := Nat.le_of_ble_eq_true (by kernel_rfl)
theorem fnok99 : FnOk 99 Tryz.f99 := ⟨Tryz.func99, by kernel_rfl, by kernel_rfl⟩
theorem parok99 : ParOk 99 Tryz.f99 := Nat.le_of_ble_eq_true (by kernel_rfl)
theorem fnok100 : FnOk 100 Tryz.f100 := ⟨Tryz.func100, by kernel_rfl, by kernel_rfl⟩
theorem parok100 : ParOk 100 Tryz.f100 := Nat.le_of_ble_eq_true (by kernel_rfl)
theorem fnok101 : FnOk 101 Tryz.f101 := ⟨Tryz.func101, by kernel_rfl, by kernel_rfl⟩
theorem parok101 : ParOk 101 Tryz.f101 := Nat.le_of_ble_eq_true (by kernel_rfl)
theorem fnok103 : FnOk 103 Tryz.f103 := ⟨Tryz.func103, by kernel_rfl, by kernel_rfl⟩
theorem parok103 : ParOk 103 Tryz.f103 := Nat.le_of_ble_eq_true (by kernel_rfl)
theorem fnok104 : FnOk 104 Tryz.f104 := ⟨Tryz.func104, by kernel_rfl, by kernel_rfl⟩
theorem parok104 : ParOk 104 Tryz.f104 := Nat.le_of_ble_eq_true (by kernel_rfl)
theorem fnok105 : FnOk 105 Tryz.f105 := ⟨Tryz.func105, by kernel_rfl, by kernel_rfl⟩
theorem parok105 : ParOk 105 Tryz.f105 := Nat.le_of_ble_eq_true (by kernel_rfl)
theorem fnok107 : FnOk 107 Tryz.f107 := ⟨Tryz.func107, by kernel_rfl, by kernel_rfl⟩
theorem parok107 : ParOk 107 Tryz.f107 := Nat.le_of_ble_eq_true (by kernel_rfl)
theorem fnok108 : FnOk 108 Tryz.f108 := ⟨Tryz.func108, by kernel_rfl, by kernel_rfl⟩
theorem parok108 : ParOk 108 Tryz.f108 := Nat.le_of_ble_eq_true (by kernel_rfl)
theorem fnok109 : FnOk 109 Tryz.f109 := ⟨Tryz.func109, by kernel_rfl, by kernel_rfl⟩
theorem parok109 : ParOk 109 Tryz.f109 := Nat.le_of_ble_eq_true (by kernel_rfl)
theorem fnok110 : FnOk 110 Tryz.f110 := ⟨Tryz.func110, by kernel_rfl, by kernel_rfl⟩
theorem parok110 : ParOk 110 Tryz.f110 := Nat.le_of_ble_eq_true (by kernel_rfl)
theorem fnok111 : FnOk 111 Tryz.f111 := ⟨Tryz.func111, by kernel_rfl, by kernel_rfl⟩
theorem parok111 : ParOk 111 Tryz.f111 := Nat.le_of_ble_eq_true (by kernel_rfl)
theorem fnok112 : FnOk 112 Tryz.f112 := ⟨Tryz.func112, by kernel_rfl, by kernel_rfl⟩
theorem parok112 : ParOk 112 Tryz.f112 := Nat.le_of_ble_eq_true (by kernel_rfl)
theorem fnok113 : FnOk 113 Tryz.f113 := ⟨Tryz.func113, by kernel_rfl, by kernel_rfl⟩
theorem parok113 : ParOk 113 Tryz.f113 := Nat.le_of_ble_eq_true (by kernel_rfl)
theorem fnok114 : FnOk 114 Tryz.f114 := ⟨Tryz.func114, by kernel_rfl, by kernel_rfl⟩
theorem parok114 : ParOk 114 Tryz.f114 := Nat.le_of_ble_eq_true (by kernel_rfl)
theorem fnok115 : FnOk 115 Tryz.f115 := ⟨Tryz.func115, by kernel_rfl, by kernel_rfl⟩
theorem parok115 : ParOk 115 Tryz.f115 := Nat.le_of_ble_eq_true (by kernel_rfl)
theorem fnok120 : FnOk 120 Tryz.f120 := ⟨Tryz.func120, by kernel_rfl, by kernel_rfl⟩
theorem parok120 : ParOk 120 Tryz.f120 := Nat.le_of_ble_eq_true (by kernel_rfl)
theorem fnok121 : FnOk 121 Tryz.f121 := ⟨Tryz.func121, by kernel_rfl, by kernel_rfl⟩
theorem parok121 : ParOk 121 Tryz.f121 := Nat.le_of_ble_eq_true (by kernel_rfl)
theorem fnok124 : FnOk 124 Tryz.f124 := ⟨Tryz.func124, by kernel_rfl, by kernel_rfl⟩
theorem parok124 : ParOk 124 Tryz.f124 := Nat.le_of_ble_eq_true (by kernel_rfl)
theorem fnok125 : FnOk 125 Tryz.f125 := ⟨Tryz.func125, by kernel_rfl, by kernel_rfl⟩
theorem parok125 : ParOk 125 Tryz.f125 := Nat.le_of_ble_eq_true (by kernel_rfl)
theorem fnok126 : FnOk 126 Tryz.f126 := ⟨Tryz.func126, by kernel_rfl, by kernel_rfl⟩
theorem parok126 : ParOk 126 Tryz.f126 := Nat.le_of_ble_eq_true (by kernel_rfl)
theorem fnok127 : FnOk 127 Tryz.f127 := ⟨Tryz.func127, by kernel_rfl, by kernel_rfl⟩
theorem parok127 : ParOk 127 Tryz.f127 := Nat.le_of_ble_eq_true (by kernel_rfl)
theorem fnok128 : FnOk 128 Tryz.f128 := ⟨Tryz.func128, by kernel_rfl, by kernel_rfl⟩
theorem parok128 : ParOk 128 Tryz.f128 := Nat.le_of_ble_eq_true (by kernel_rfl)
theorem fnok129 : FnOk 129 Tryz.f129 := ⟨Tryz.func129, by kernel_rfl, by kernel_rfl⟩
theorem parok129 : ParOk 129 Tryz.f129 := Nat.le_of_ble_eq_true (by kernel_rfl)
theorem fnok130 : FnOk 130 Tryz.f130 := ⟨Tryz.func130, by kernel_rfl, by kernel_rfl⟩
theorem parok130 : ParOk 130 Tryz.f130 := Nat.le_of_ble_eq_true (by kernel_rfl)
theorem fnok131 : FnOk 131 Tryz.f131 := ⟨Tryz.func131, by kernel_rfl, by kernel_rfl⟩
theorem parok131 : ParOk 131 Tryz.f131 := Nat.le_of_ble_eq_true (by kernel_rfl)
theorem fnok132 : FnOk 132 Tryz.f132 := ⟨Tryz.func132, by kernel_rfl, by kernel_rfl⟩
theorem parok132 : ParOk 132 Tryz.f132 := Nat.le_of_ble_eq_true (by kernel_rfl)
theorem fnok133 : FnOk 133 Tryz.f133 := ⟨Tryz.func133, by kernel_rfl, by kernel_rfl⟩
theorem parok133 : ParOk 133 Tryz.f133 := Nat.le_of_ble_eq_true (by kernel_rfl)
theorem fnok134 : FnOk 134 Tryz.f134 := ⟨Tryz.func134, by kernel_rfl, by kernel_rfl⟩
theorem parok134 : ParOk 134 Tryz.f134 := Nat.le_of_ble_eq_true (by kernel_rfl)
theorem fnok135 : FnOk 135 Tryz.f135 := ⟨Tryz.func135, by kernel_rfl, by kernel_rfl⟩
theorem parok135 : ParOk 135 Tryz.f135 := Nat.le_of_ble_eq_true (by kernel_rfl)
theorem fnok136 : FnOk 136 Tryz.f136 := ⟨Tryz.func136, by kernel_rfl, by kernel_rfl⟩
theorem parok136 : ParOk 136 Tryz.f136 := Nat.le_of_ble_eq_true (by kernel_rfl)
theorem fnok137 : FnOk 137 Tryz.f137 := ⟨Tryz.func137, by kernel_rfl, by kernel_rfl⟩
theorem parok137 : ParOk 137 Tryz.f137 := Nat.le_of_ble_eq_true (by kernel_rfl)
theorem fnok144 : FnOk 144 Tryz.f144 := ⟨Tryz.func144, by kernel_rfl, by kernel_rfl⟩
theorem parok144 : ParOk 144 Tryz.f144 := Nat.le_of_ble_eq_true (by kernel_rfl)
theorem fnok151 : FnOk 151 Tryz.f151 := ⟨Tryz.func151, by kernel_rfl, by kernel_rfl⟩
theorem parok151 : ParOk 151 Tryz.f151 := Nat.le_of_ble_eq_true (by kernel_rfl)
theorem fnok155 : FnOk 155 Tryz.f155 := ⟨Tryz.func155, by kernel_rfl, by kernel_rfl⟩
theorem parok155 : ParOk 155 Tryz.f155 := Nat.le_of_ble_eq_true (by kernel_rfl)
theorem fnok156 : FnOk 156 Tryz.f156 := ⟨Tryz.func156, by kernel_rfl, by kernel_rfl⟩
theorem parok156 : ParOk 156 Tryz.f156 := Nat.le_of_ble_eq_true (by kernel_rfl)
theorem fnok157 : FnOk 157 Tryz.f157 := ⟨Tryz.func157, by kernel_rfl, by kernel_rfl⟩
theorem parok157 : ParOk 157 Tryz.f157 := Nat.le_of_ble_eq_true (by kernel_rfl)
theorem fnok158 : FnOk 158 Tryz.f158 := ⟨Tryz.func158, by kernel_rfl, by kernel_rfl⟩
theorem parok158 : ParOk 158 Tryz.f158 := Nat.le_of_ble_eq_true (by kernel_rfl)
theorem fnok159 : FnOk 159 Tryz.f159 := ⟨Tryz.func159, by kernel_rfl, by kernel_rfl⟩
theorem parok159 : ParOk 159 Tryz.f159 := Nat.le_of_ble_eq_true (by kernel_rfl)
theorem fnok160 : FnOk 160 Tryz.f160 := ⟨Tryz.func160, by kernel_rfl, by kernel_rfl⟩
theorem parok160 : ParOk 160 Tryz.f160 := Nat.le_of_ble_eq_true (by kernel_rfl)
theorem fnok161 : FnOk 161 Tryz.f161 := ⟨Tryz.func161, by kernel_rfl, by kernel_rfl⟩
theorem parok161 : ParOk 161 Tryz.f161 := Nat.le_of_ble_eq_true (by kernel_rfl)
theorem fnok162 : FnOk 162 Tryz.f162 := ⟨Tryz.func162, by kernel_rfl, by kernel_rfl⟩
theorem parok162 : ParOk 162 Tryz.f162 := Nat.le_of_ble_eq_true (by kernel_rfl)
theorem fnok163 : FnOk 163 Tryz.f163 := ⟨Tryz.func163, by kernel_rfl, by kernel_rfl⟩
theorem parok163 : ParOk 163 Tryz.f163 := Nat.le_of_ble_eq_true (by kernel_rfl)
theorem fnok165 : FnOk 165 Tryz.f165 := ⟨Tryz.func165, by kernel_rfl, by kernel_rfl⟩
theorem parok165 : ParOk 165 Tryz.f165 := Nat.le_of_ble_eq_true (by kernel_rfl)
theorem fnok166 : FnOk 166 Tryz.f166 := ⟨Tryz.func166, by kernel_rfl, by kernel_rfl⟩
theorem parok166 : ParOk 166 Tryz.f166 := Nat.le_of_ble_eq_true (by kernel_rfl)
theorem fnok167 : FnOk 167 Tryz.f167 := ⟨Tryz.func167, by kernel_rfl, by kernel_rfl⟩
theorem parok167 : ParOk 167 Tryz.f167 := Nat.le_of_ble_eq_true (by kernel_rfl)
theorem fnok168 : FnOk 168 Tryz.f168 := ⟨Tryz.func168, by kernel_rfl, by kernel_rfl⟩
theorem parok168 : ParOk 168 Tryz.f168 := Nat.le_of_ble_eq_true (by kernel_rfl)
theorem fnok169 : FnOk 169 Tryz.f169 := ⟨Tryz.func169, by kernel_rfl, by kernel_rfl⟩
theorem parok169 : ParOk 169 Tryz.f169 := Nat.le_of_ble_eq_true (by kernel_rfl)
theorem fnok170 : FnOk 170 Tryz.f170 := ⟨Tryz.func170, by kernel_rfl, by kernel_rfl⟩
theorem parok170 : ParOk 170 Tryz.f170 := Nat.le_of_ble_eq_true (by kernel_rfl)
theorem fnok171 : FnOk 171 Tryz.f171 := ⟨Tryz.func171, by kernel_rfl, by kernel_rfl⟩
theorem parok171 : ParOk 171 Tryz.f171 := Nat.le_of_ble_eq_true (by kernel_rfl)
theorem fnok172 : FnOk 172 Tryz.f172 := ⟨Tryz.func172, by kernel_rfl, by kernel_rfl⟩
theorem parok172 : ParOk 172 Tryz.f172 := Nat.le_of_ble_eq_true (by kernel_rfl)
theorem fnok173 : FnOk 173 Tryz.f173 := ⟨Tryz.func173, by kernel_rfl, by kernel_rfl⟩
theorem parok173 : ParOk 173 Tryz.f173 := Nat.le_of_ble_eq_true (by kernel_rfl)
theorem fnok174 : FnOk 174 Tryz.f174 := ⟨Tryz.func174, by kernel_rfl, by kernel_rfl⟩
theorem parok174 : ParOk 174 Tryz.f174 := Nat.le_of_ble_eq_true (by kernel_rfl)
theorem fnok175 : FnOk 175 Tryz.f175 := ⟨Tryz.func175, by kernel_rfl, by kernel_rfl⟩
theorem parok175 : ParOk 175 Tryz.f175 := Nat.le_of_ble_eq_true (by kernel_rfl)
theorem fnok176 : FnOk 176 Tryz.f176 := ⟨Tryz.func176, by kernel_rfl, by kernel_rfl⟩
theorem parok176 : ParOk 176 Tryz.f176 := Nat.le_of_ble_eq_true (by kernel_rfl)
theorem fnok177 : FnOk 177 Tryz.f177 := ⟨Tryz.func177, by kernel_rfl, by kernel_rfl⟩
theorem parok177 : ParOk 177 Tryz.f177 := Nat.le_of_ble_eq_true (by kernel_rfl)
theorem fnok178 : FnOk 178 Tryz.f178 := ⟨Tryz.func178, by kernel_rfl, by kernel_rfl⟩
theorem parok178 : ParOk 178 Tryz.f178 := Nat.le_of_ble_eq_true (by kernel_rfl)
theorem fnok179 : FnOk 179 Tryz.f179 := ⟨Tryz.func179, by kernel_rfl, by kernel_rfl⟩
theorem parok179 : ParOk 179 Tryz.f179 := Nat.le_of_ble_eq_true (by kernel_rfl)
theorem fnok180 : FnOk 180 Tryz.f180 := ⟨Tryz.func180, by kernel_rfl, by kernel_rfl⟩
theorem parok180 : ParOk 180 Tryz.f180 := Nat.le_of_ble_eq_true (by kernel_rfl)
theorem fnok181 : FnOk 181 Tryz.f181 := ⟨Tryz.func181, by kernel_rfl, by kernel_rfl⟩
theorem parok181 : ParOk 181 Tryz.f181 := Nat.le_of_ble_eq_true (by kernel_rfl)
theorem fnok182 : FnOk 182 Tryz.f182 := ⟨Tryz.func182, by kernel_rfl, by kernel_rfl⟩
theorem parok182 : ParOk 182 Tryz.f182 := Nat.le_of_ble_eq_true (by kernel_rfl)
theorem fnok184 : FnOk 184 Tryz.f184 := ⟨Tryz.func184, by kernel_rfl, by kernel_rfl⟩
theorem parok184 : ParOk 184 Tryz.f184 := Nat.le_of_ble_eq_true (by kernel_rfl)
theorem fnok185 : FnOk 185 Tryz.f185 := ⟨Tryz.func185, by kernel_rfl, by kernel_rfl⟩
theorem parok185 : ParOk 185 Tryz.f185 := Nat.le_of_ble_eq_true (by kernel_rfl)
theorem fnok212 : FnOk 212 Tryz.f212 := ⟨Tryz.func212, by kernel_rfl, by kernel_rfl⟩
theorem parok212 : ParOk 212 Tryz.f212 := Nat.le_of_ble_eq_true (by kernel_rfl)
theorem fnok213 : FnOk 213 Tryz.f213 := ⟨Tryz.func213, by kernel_rfl, by kernel_rfl⟩
theorem parok213 : ParOk 213 Tryz.f213 := Nat.le_of_ble_eq_true (by kernel_rfl)
theorem fnok214 : FnOk 214 Tryz.f214 := ⟨Tryz.func214, by kernel_rfl, by kernel_rfl⟩
theorem parok214 : ParOk 214 Tryz.f214 := Nat.le_of_ble_eq_true (by kernel_rfl)
theorem fnok215 : FnOk 215 Tryz.f215 := ⟨Tryz.func215, by kernel_rfl, by kernel_rfl⟩
theorem parok215 : ParOk 215 Tryz.f215 := Nat.le_of_ble_eq_true (by kernel_rfl)
theorem fns_ok : ∀ f fn, look fns f = some fn → FnOk f fn := look_all (Q := FnOk) (l := fns) (all_cons fnok3 (all_cons fnok4 (all_cons fnok5 (all_cons fnok6 (all_cons fnok8 (all_cons fnok9 (all_cons fnok10 (all_cons fnok11 (all_cons fnok12 (all_cons fnok13 (all_cons fnok14 (all_cons fnok15 (all_cons fnok16 (all_cons fnok17 (all_cons fnok18 (all_cons fnok19 (all_cons fnok20 (all_cons fnok21 (all_cons fnok22 (all_cons fnok23 (all_cons fnok24 (all_cons fnok25 (all_cons fnok26 (all_cons fnok27 (all_cons fnok28 (all_cons fnok29 (all_cons fnok30 (all_cons fnok31 (all_cons fnok32 (all_cons fnok33 (all_cons fnok34 (all_cons fnok35 (all_cons fnok36 (all_cons fnok37 (all_cons fnok38 (all_cons fnok39 (all_cons fnok40 (all_cons fnok41 (all_cons fnok42 (all_cons fnok43 (all_cons fnok44 (all_cons fnok45 (all_cons fnok46 (all_cons fnok47 (all_cons fnok49 (all_cons fnok51 (all_cons fnok52 (all_cons fnok53 (all_cons fnok54 (all_cons fnok55 (all_cons fnok56 (all_cons fnok57 (all_cons fnok58 (all_cons fnok59 (all_cons fnok60 (all_cons fnok61 (all_cons fnok62 (all_cons fnok63 (all_cons fnok64 (all_cons fnok65 (all_cons fnok66 (all_cons fnok67 (all_cons fnok68 (all_cons fnok69 (all_cons fnok70 (all_cons fnok71 (all_cons fnok72 (all_cons fnok73 (all_cons fnok74 (all_cons fnok75 (all_cons fnok76 (all_cons fnok77 (all_cons fnok78 (all_cons fnok79 (all_cons fnok80 (all_cons fnok81 (all_cons fnok82 (all_cons fnok83 (all_cons fnok84 (all_cons fnok85 (all_cons fnok86 (all_cons fnok87 (all_cons fnok88 (all_cons fnok89 (all_cons fnok90 (all_cons fnok91 (all_cons fnok92 (all_cons fnok93 (all_cons fnok94 (all_cons fnok95 (all_cons fnok96 (all_cons fnok97 (all_cons fnok98 (all_cons fnok99 (all_cons fnok100 (all_cons fnok101 (all_cons fnok103 (all_cons fnok104 (all_cons fnok105 (all_cons fnok107 (all_cons fnok108 (all_cons fnok109 (all_cons fnok110 (all_cons fnok111 (all_cons fnok112 (all_cons fnok113 (all_cons fnok114 (all_cons fnok115 (all_cons fnok120 (all_cons fnok121 (all_cons fnok124 (all_cons fnok125 (all_cons fnok126 (all_cons fnok127 (all_cons fnok128 (all_cons fnok129 (all_cons fnok130 (all_cons fnok131 (all_cons fnok132 (all_cons fnok133 (all_cons fnok134 (all_cons fnok135 (all_cons fnok136 (all_cons fnok137 (all_cons fnok144 (all_cons fnok151 (all_cons fnok155 (all_cons fnok156 (all_cons fnok157 (all_cons fnok158 (all_cons fnok159 (all_cons fnok160 (all_cons fnok161 (all_cons fnok162 (all_cons fnok163 (all_cons fnok165 (all_cons fnok166 (all_cons fnok167 (all_cons fnok168 (all_cons fnok169 (all_cons fnok170 (all_cons fnok171 (all_cons fnok172 (all_cons fnok173 (all_cons fnok174 (all_cons fnok175 (all_cons fnok176 (all_cons fnok177 (all_cons fnok178 (all_cons fnok179 (all_cons fnok180 (all_cons fnok181 (all_cons fnok182 (all_cons fnok184 (all_cons fnok185 (all_cons fnok212 (all_cons fnok213 (all_cons fnok214 (all_cons fnok215 (all_cons fnok102 (all_cons fnok106 (all_cons fnok122 (all_cons fnok123 all_nil)))))))))))))))))))))))))))))))))))))))))))))))))))))))))))))))))))))))))))))))))))))))))))))))))))))))))))))))))))))))))))))))))))))))))))))))))))))))))))))))))))
theorem ctx_ok : CtxOk Tryz.prog CT := ⟨tis_ok, fns_ok, by kernel_rfl, inv_keeps⟩
theorem pars_ok : ∀ i fn, look fns i = some fn → ParOk i fn := look_all (Q := ParOk) (l := fns) (all_cons parok3 (all_cons parok4 (all_cons parok5 (all_cons parok6 (all_cons parok8 (all_cons parok9 (all_cons parok10 (all_cons parok11 (all_cons parok12 (all_cons parok13 (all_cons parok14 (all_cons parok15 (all_cons parok16 (all_cons parok17 (all_cons parok18 (all_cons parok19 (all_cons parok20 (all_cons parok21 (all_cons parok22 (all_cons parok23 (all_cons parok24 (all_cons parok25 (all_cons parok26 (all_cons parok27 (all_cons parok28 (all_cons parok29 (all_cons parok30 (all_cons parok31 (all_cons parok32 (all_cons parok33 (all_cons parok34 (all_cons parok35 (all_cons parok36 (all_cons parok37 (all_cons parok38 (all_cons parok39 (all_cons parok40 (all_cons parok41 (all_cons parok42 (all_cons parok43 (all_cons parok44 (all_cons parok45 (all_cons parok46 (all_cons parok47 (all_cons parok49 (all_cons parok51 (all_cons parok52 (all_cons parok53 (all_cons parok54 (all_cons parok55 (all_cons parok56 (all_cons parok57 (all_cons parok58 (all_cons parok59 (all_cons parok60 (all_cons parok61 (all_cons parok62 (all_cons parok63 (all_cons parok64 (all_cons parok65 (all_cons parok66 (all_cons parok67 (all_cons parok68 (all_cons parok69 (all_cons parok70 (all_cons parok71 (all_cons parok72 (all_cons parok73 (all_cons parok74 (all_cons parok75 (all_cons parok76 (all_cons parok77 (all_cons parok78 (all_cons parok79 (all_cons parok80 (all_cons parok81 (all_cons parok82 (all_cons parok83 (all_cons parok84 (all_cons parok85 (all_cons parok86 (all_cons parok87 (all_cons parok88 (all_cons parok89 (all_cons parok90 (all_cons parok91 (all_cons parok92 (all_cons parok93 (all_cons parok94 (all_cons parok95 (all_cons parok96 (all_cons parok97 (all_cons parok98 (all_cons parok99 (all_cons parok100 (all_cons parok101 (all_cons parok103 (all_cons parok104 (all_cons parok105 (all_cons parok107 (all_cons parok108 (all_cons parok109 (all_cons parok110 (all_cons parok111 (all_cons parok112 (all_cons parok113 (all_cons parok114 (all_cons parok115 (all_cons parok120 (all_cons parok121 (all_cons parok124 (all_cons parok125 (all_cons parok126 (all_cons parok127 (all_cons parok128 (all_cons parok129 (all_cons parok130 (all_cons parok131 (all_cons parok132 (all_cons parok133 (all_cons parok134 (all_cons parok135 (all_cons parok136 (all_cons parok137 (all_cons parok144 (all_cons parok151 (all_cons parok155 (all_cons parok156 (all_cons parok157 (all_cons parok158 (all_cons parok159 (all_cons parok160 (all_cons parok161 (all_cons parok162 (all_cons parok163 (all_cons parok165 (all_cons parok166 (all_cons parok167 (all_cons parok168 (all_cons parok169 (all_cons parok170 (all_cons parok171 (all_cons parok172 (all_cons parok173 (all_cons parok174 (all_cons parok175 (all_cons parok176 (all_cons parok177 (all_cons parok178 (all_cons parok179 (all_cons parok180 (all_cons parok181 (all_cons parok182 (all_cons parok184 (all_cons parok185 (all_cons parok212 (all_cons parok213 (all_cons parok214 (all_cons parok215 (all_cons parok102 (all_cons parok106 (all_cons parok122 (all_cons parok123 all_nil)))))))))))))))))))))))))))))))))))))))))))))))))))))))))))))))))))))))))))))))))))))))))))))))))))))))))))))))))))))))))))))))))))))))))))))))))))))))))))))))))))
theorem sound (hE : ExtOk Tryz.prog CT) : ∀ k, SpecOk Tryz.prog (sem CT k) ∧ StageOk Tryz.prog (sem CT k) := sem_sound ctx_ok hE pars_ok
theorem ext_ok : ExtOk Tryz.prog CT := ext_of (l := extL) rfl (allE_cons (ext_at (Q.dec_ok inv_keeps inv_max)) (allE_cons (ext_at (Q.div_ok inv_max)) (allE_cons (ext_at (Q.mul_ok inv_max)) (allE_cons (ext_at (repeat_ok)) (allE_cons (ext_at (cut_ok inv_max)) (allE_cons (ext_at (Q.lex_ok inv_keeps inv_max)) (allE_cons (ext_at (Q.trim_ok inv_max)) (allE_cons (ext_at (Q.of_ok inv_max)) (allE_cons (ext_at (Q.cmp_ok inv_max)) (allE_cons (ext_at (Q.pow_ok inv_max)) (allE_cons (ext_at (Q.rmul_ok inv_max)) (allE_cons (ext_at (Q.rtrim_ok inv_max)) (allE_cons (ext_at (Q.rpow_ok inv_max)) (allE_cons (ext_at (Q.rdiv_ok inv_max)) (allE_cons (ext_at (Q.rsmall_ok inv_max)) (allE_cons (ext_at (Q.add_ok inv_max)) (allE_cons (ext_at (Q.gcd_ok inv_max)) (allE_cons (ext_at (Q.rgcd_ok inv_max)) (allE_cons (ext_at (Q.radd_ok inv_max)) (allE_cons (ext_at (Q.rof_ok inv_max)) (allE_cons (ext_at (Q.rbits_ok inv_max)) (allE_cons (ext_at (Q.rcmp_ok inv_max)) allE_nil))))))))))))))))))))))
theorem spec_ok (k : Nat) : SpecOk Tryz.prog (sem CT k) := (sound ext_ok k).1
end Go.Proofs.YtenapomineinbaaGreatDoor.K
