/- Part 7 of the proof: the machine, the tables and the pure laws that the last text joins. -/
import Derived.Test.YtljapieoihecbaaGreatDoorZ4
import Derived.Test.YtljapieoihecbaaGreatDoorZ6
import Derived.Test.YtljapieoihecbaaGreatDoorProg
/- The machine at this seat: tables, names. -/
set_option linter.unusedVariables false
set_option maxRecDepth 100000
namespace Go.Proofs.YtljapieoihecbaaGreatDoor.K
open Go
abbrev TB9 := List UInt8
abbrev TV9 := Int × (Bool × TB9 × TB9) × TB9 × Bool × Int
abbrev TA9 := (List TV9) × Int × Bool × Int × Int
abbrev tR9 : Ty := .pair .bool (.pair .str .str)
abbrev tV9 : Ty := .pair (.int .i64) (.pair tR9 (.pair .str (.pair .bool (.int .i64))))
abbrev tA9 : Ty := .pair (.sl tV9) (.pair (.int .i64) (.pair .bool (.pair (.int .i64) (.int .i64))))
def look {α : Type} : List (Nat × α) → Nat → Option α
  | [], _ => none
  | (u, v) :: l, t => match Nat.beq u t with
    | true => some v
    | false => look l t
def peq : Path → Path → Bool
  | [], [] => true
  | a :: p, b :: q => Nat.beq a b && peq p q
  | _, _ => false
def lookP : List (Nat × Path × Ann) → Nat → Path → Option Ann
  | [], _, _ => none
  | (g, u, v) :: l, f, t => match Nat.beq g f && peq u t with
    | true => some v
    | false => lookP l f t
def Inv (w : World) : Prop := MaxLen w
theorem inv_max : ∀ w, Inv w → MaxLen w := fun _ h => h
theorem inv_keeps : ∀ w w', Inv w → RowKit.Below w.heap.size w w' → Inv w' := maxLen_keeps
noncomputable def ti2 : TI := { sh := (.int .i64), size := 1, bytes := 8, zero := [(.int .i64 0)], ty := some (.int .i64), fl := [], eq := false }
noncomputable def ti3 : TI := { sh := (.int .i64), size := 1, bytes := 8, zero := [(.int .i64 0)], ty := some (.int .i64), fl := [], eq := false }
noncomputable def ti4 : TI := { sh := .bool, size := 1, bytes := 1, zero := [(.bool false)], ty := some .bool, fl := [], eq := false }
noncomputable def ti5 : TI := { sh := (.int .u8), size := 1, bytes := 1, zero := [(.int .u8 0)], ty := some (.int .u8), fl := [], eq := false }
noncomputable def ti9 : TI := { sh := .str, size := 1, bytes := 16, zero := [(.str [])], ty := some .str, fl := [], eq := false }
noncomputable def ti22 : TI := { sh := (.sl 9), size := 1, bytes := 24, zero := [.nilsl], ty := some (.sl .str), fl := [], eq := false }
noncomputable def ti27 : TI := { sh := (.st [(0, 4), (1, 9), (2, 9)]), size := 3, bytes := 40, zero := [(.bool false), (.str []), (.str [])], ty := some tR9, fl := [(0, 1, false), (1, 1, false), (2, 1, false)], eq := false }
noncomputable def ti29 : TI := { sh := (.st [(0, 3), (1, 27), (4, 9), (5, 4), (6, 3)]), size := 7, bytes := 80, zero := [(.int .i64 0), (.bool false), (.str []), (.str []), (.str []), (.bool false), (.int .i64 0)], ty := some tV9, fl := [(0, 1, false), (1, 3, true), (4, 1, false), (5, 1, false), (6, 1, false)], eq := true }
noncomputable def ti31 : TI := { sh := (.sl 29), size := 1, bytes := 24, zero := [.nilsl], ty := some (.sl tV9), fl := [], eq := false }
noncomputable def ti33 : TI := { sh := (.st [(0, 31), (1, 3), (2, 4), (3, 3), (4, 3)]), size := 5, bytes := 56, zero := [.nilsl, (.int .i64 0), (.bool false), (.int .i64 0), (.int .i64 0)], ty := some tA9, fl := [(0, 1, false), (1, 1, false), (2, 1, false), (3, 1, false), (4, 1, false)], eq := false }
noncomputable def ti35 : TI := { sh := (.sl 33), size := 1, bytes := 24, zero := [.nilsl], ty := some (.sl tA9), fl := [], eq := false }
noncomputable def ti78 : TI := { sh := (.sl 4), size := 1, bytes := 24, zero := [.nilsl], ty := some (.sl .bool), fl := [], eq := false }
noncomputable def ti83 : TI := { sh := (.sl 2), size := 1, bytes := 24, zero := [.nilsl], ty := some (.sl (.int .i64)), fl := [], eq := false }
noncomputable def ti88 : TI := { sh := (.st [(0, 4), (1, 9)]), size := 2, bytes := 24, zero := [(.bool false), (.str [])], ty := some (.pair .bool .str), fl := [(0, 1, false), (1, 1, false)], eq := true }
noncomputable def ti91 : TI := { sh := (.arr 8 9), size := 8, bytes := 128, zero := [(.str []), (.str []), (.str []), (.str []), (.str []), (.str []), (.str []), (.str [])], ty := none, fl := [], eq := false }
noncomputable def ti95 : TI := { sh := (.st [(0, 3), (1, 27), (4, 9), (5, 4), (6, 3)]), size := 7, bytes := 80, zero := [(.int .i64 0), (.bool false), (.str []), (.str []), (.str []), (.bool false), (.int .i64 0)], ty := some tV9, fl := [(0, 1, false), (1, 3, true), (4, 1, false), (5, 1, false), (6, 1, false)], eq := false }
noncomputable def ti121 : TI := { sh := (.int .u64), size := 1, bytes := 8, zero := [(.int .u64 0)], ty := some (.int .u64), fl := [], eq := false }
noncomputable def ti142 : TI := { sh := (.sl 3), size := 1, bytes := 24, zero := [.nilsl], ty := some (.sl (.int .i64)), fl := [], eq := false }
noncomputable def ti144 : TI := { sh := (.sl 5), size := 1, bytes := 24, zero := [.nilsl], ty := some (.sl (.int .u8)), fl := [], eq := false }
noncomputable def tis : List (Nat × TI) := [(2, ti2), (3, ti3), (4, ti4), (5, ti5), (9, ti9), (22, ti22), (27, ti27), (29, ti29), (31, ti31), (33, ti33), (35, ti35), (78, ti78), (83, ti83), (88, ti88), (91, ti91), (95, ti95), (121, ti121), (142, ti142), (144, ti144)]
noncomputable def fns : List (Nat × Func) := [(3, Tryz.f3), (4, Tryz.f4), (5, Tryz.f5), (6, Tryz.f6), (7, Tryz.f7), (8, Tryz.f8), (9, Tryz.f9), (10, Tryz.f10), (11, Tryz.f11), (12, Tryz.f12), (13, Tryz.f13), (14, Tryz.f14), (15, Tryz.f15), (16, Tryz.f16), (17, Tryz.f17), (18, Tryz.f18), (20, Tryz.f20), (21, Tryz.f21), (22, Tryz.f22), (23, Tryz.f23), (24, Tryz.f24), (25, Tryz.f25), (26, Tryz.f26), (27, Tryz.f27), (28, Tryz.f28), (29, Tryz.f29), (30, Tryz.f30), (31, Tryz.f31), (32, Tryz.f32), (33, Tryz.f33), (34, Tryz.f34), (35, Tryz.f35), (36, Tryz.f36), (37, Tryz.f37), (38, Tryz.f38), (39, Tryz.f39), (40, Tryz.f40), (41, Tryz.f41), (42, Tryz.f42), (43, Tryz.f43), (44, Tryz.f44), (45, Tryz.f45), (49, Tryz.f49), (51, Tryz.f51), (52, Tryz.f52), (53, Tryz.f53), (54, Tryz.f54), (55, Tryz.f55), (56, Tryz.f56), (57, Tryz.f57), (58, Tryz.f58), (59, Tryz.f59), (60, Tryz.f60), (61, Tryz.f61), (62, Tryz.f62), (63, Tryz.f63), (64, Tryz.f64), (65, Tryz.f65), (66, Tryz.f66), (67, Tryz.f67), (68, Tryz.f68), (69, Tryz.f69), (70, Tryz.f70), (71, Tryz.f71), (72, Tryz.f72), (73, Tryz.f73), (76, Tryz.f76), (78, Tryz.f78), (79, Tryz.f79), (80, Tryz.f80), (81, Tryz.f81), (82, Tryz.f82), (83, Tryz.f83), (84, Tryz.f84), (85, Tryz.f85), (86, Tryz.f86), (87, Tryz.f87), (88, Tryz.f88), (89, Tryz.f89), (90, Tryz.f90), (92, Tryz.f92), (93, Tryz.f93), (94, Tryz.f94), (95, Tryz.f95), (96, Tryz.f96), (97, Tryz.f97), (98, Tryz.f98), (100, Tryz.f100), (101, Tryz.f101), (102, Tryz.f102), (103, Tryz.f103), (104, Tryz.f104), (105, Tryz.f105), (106, Tryz.f106), (107, Tryz.f107), (108, Tryz.f108), (109, Tryz.f109), (110, Tryz.f110), (111, Tryz.f111), (112, Tryz.f112), (113, Tryz.f113), (114, Tryz.f114), (115, Tryz.f115), (116, Tryz.f116), (117, Tryz.f117), (118, Tryz.f118), (119, Tryz.f119), (120, Tryz.f120), (121, Tryz.f121), (122, Tryz.f122), (123, Tryz.f123), (124, Tryz.f124), (125, Tryz.f125), (126, Tryz.f126), (127, Tryz.f127), (129, Tryz.f129), (130, Tryz.f130), (134, Tryz.f134), (135, Tryz.f135), (136, Tryz.f136), (137, Tryz.f137), (138, Tryz.f138), (139, Tryz.f139), (140, Tryz.f140), (141, Tryz.f141), (142, Tryz.f142), (143, Tryz.f143), (144, Tryz.f144), (145, Tryz.f145), (146, Tryz.f146), (147, Tryz.f147), (148, Tryz.f148), (149, Tryz.f149), (150, Tryz.f150), (151, Tryz.f151), (153, Tryz.f153), (154, Tryz.f154), (155, Tryz.f155), (157, Tryz.f157), (158, Tryz.f158), (159, Tryz.f159), (160, Tryz.f160), (172, Tryz.f172), (173, Tryz.f173), (174, Tryz.f174), (176, Tryz.f176), (177, Tryz.f177), (178, Tryz.f178), (179, Tryz.f179), (180, Tryz.f180), (181, Tryz.f181), (183, Tryz.f183), (184, Tryz.f184), (185, Tryz.f185), (186, Tryz.f186), (197, Tryz.f197), (198, Tryz.f198), (199, Tryz.f199), (200, Tryz.f200), (201, Tryz.f201), (202, Tryz.f202), (213, Tryz.f213), (214, Tryz.f214), (19, Tryz.f19), (46, Tryz.f46), (47, Tryz.f47), (48, Tryz.f48), (50, Tryz.f50), (74, Tryz.f74), (75, Tryz.f75), (77, Tryz.f77), (91, Tryz.f91)]
def inls : List Nat := [19, 46, 47, 48, 50, 74, 75, 77, 91]
noncomputable def ptsL : List (Nat × List Ty) := [(3, [(.int .i64)]), (4, [.bool, .bool, tV9, tV9]), (5, [.str, (.sl tA9)]), (6, []), (7, []), (8, []), (9, [(.sl tA9)]), (10, [tV9]), (11, [.bool]), (12, [.str, (.sl tA9)]), (13, [tV9]), (14, [.str, (.sl tA9)]), (15, [(.int .i64)]), (16, [(.int .i64)]), (17, [.str]), (18, [(.int .i64)]), (20, [tA9]), (21, [tA9]), (22, [.str, (.sl tA9)]), (23, [.bool]), (24, [(.sl tV9)]), (25, [.str, tV9]), (26, [(.sl tV9)]), (27, [tV9, (.sl tV9)]), (28, [.str, tV9]), (29, [tR9]), (30, [.str]), (31, [(.sl .str), .str]), (32, [.str]), (33, [(.sl tA9)]), (34, [tA9]), (35, [.str, (.sl tA9)]), (36, [(.sl tV9)]), (37, [tV9]), (38, [.str, tV9]), (39, [(.sl tV9)]), (40, [(.sl tV9)]), (41, [.str, tV9]), (42, [tR9]), (43, [(.int .i64)]), (44, [(.sl .str), .str]), (45, [(.int .i64)]), (49, [tV9]), (51, [tV9]), (52, [tV9]), (53, [tR9]), (54, [tR9]), (55, [tV9, tV9]), (56, [tV9]), (57, [.str]), (58, [tV9]), (59, [.str]), (60, [.str, .str]), (61, [tA9]), (62, [(.sl tA9)]), (63, [tV9]), (64, [tR9]), (65, [.str]), (66, [tV9]), (67, [tR9]), (68, [tR9]), (69, [tV9, tV9]), (70, [tR9]), (71, [(.pair .bool .str), (.pair .bool .str)]), (72, [(.int .i64)]), (73, [(.sl .str), .str]), (76, [tR9]), (78, [tV9]), (79, [tR9]), (80, [.str]), (81, [.str]), (82, [(.int .i64)]), (83, [.bool]), (84, [tR9]), (85, [(.pair .bool .str)]), (86, [tR9]), (87, [tR9]), (88, [.str, .str]), (89, [(.pair .bool .str)]), (90, [.bool, .str]), (92, [tV9, (.int .i64)]), (93, [(.int .i64), (.int .i64)]), (94, [tR9, tR9]), (95, [(.sl (.int .i64))]), (96, [.str, .str]), (97, [(.int .i64), (.int .i64)]), (98, [.str]), (100, [(.pair .bool .str), (.pair .bool .str)]), (101, [tR9]), (102, [.str]), (103, [tR9]), (104, [(.pair .bool .str)]), (105, [tR9]), (106, [tR9]), (107, [tV9, tV9]), (108, [(.int .i64), (.int .i64)]), (109, [tR9, tR9]), (110, [.str, .str]), (111, [.bool]), (112, []), (113, [.bool, .str]), (114, [.str, .str]), (115, [.str]), (116, [(.int .u64)]), (117, [tR9]), (118, [tR9]), (119, [.str]), (120, [.str, .str]), (121, [.str, .str]), (122, [.str, .str]), (123, [.str]), (124, [tR9]), (125, [(.int .i64)]), (126, [(.pair .bool .str)]), (127, [.str]), (129, [.str, .str]), (130, [.str]), (134, [(.pair .bool .str), (.pair .bool .str)]), (135, [(.int .i64)]), (136, [(.pair .bool .str), (.pair .bool .str)]), (137, [tR9, tR9]), (138, [.str]), (139, [(.int .i64)]), (140, [.str, .str]), (141, [(.pair .bool .str)]), (142, [.str, .str]), (143, [.str]), (144, [.str, (.int .u8)]), (145, [.str, .str]), (146, [tR9]), (147, [.str]), (148, [(.pair .bool .str), (.pair .bool .str)]), (149, [tR9]), (150, []), (151, [(.pair .bool .str), (.pair .bool .str)]), (153, [.str]), (154, [.str, .str]), (155, [.str, .str]), (157, [.str]), (158, [.str]), (159, [(.int .u64), (.int .i64)]), (160, [(.int .u64)]), (172, [tR9]), (173, [(.pair .bool .str), (.pair .bool .str)]), (174, [tR9]), (176, [.str]), (177, [.str]), (178, [.str, (.int .i64)]), (179, [(.pair .bool .str), (.pair .bool .str)]), (180, [.str, .str]), (181, [.str, .str]), (183, [.str]), (184, [.str, .str]), (185, [.str, .str]), (186, [.str, (.int .i64)]), (197, [.str, .str]), (198, [.str, .str]), (199, [.str, (.int .i64)]), (200, [(.pair .bool .str), (.pair .bool .str)]), (201, [.str, (.int .i64)]), (202, [(.sl (.int .i64))]), (213, [(.pair .bool .str), (.pair .bool .str)]), (214, [(.pair .bool .str)])]
noncomputable def rtsL : List (Nat × List Ty) := [(3, [.bool]), (4, [.bool]), (5, [.bool]), (6, [(.sl .str)]), (7, [(.sl .str)]), (8, [.bool]), (9, [.bool]), (10, [tA9]), (11, [tV9]), (12, [tV9]), (13, [.bool]), (14, [tV9]), (15, [tA9]), (16, [tV9]), (17, [(.int .i64), (.int .i64), .bool]), (18, [tV9]), (20, [.bool]), (21, [tV9]), (22, [tV9]), (23, [tV9]), (24, [tV9]), (25, [.bool]), (26, [tV9]), (27, [tV9]), (28, [tV9]), (29, [.bool]), (30, [.bool]), (31, [.bool]), (32, [(.int .i64), (.int .i64)]), (33, [.bool]), (34, [tV9]), (35, [tV9]), (36, [tV9]), (37, [.bool, (.int .i64)]), (38, [tV9]), (39, [tV9]), (40, [tV9]), (41, [tV9]), (42, [tV9]), (43, [tR9]), (44, [.bool]), (45, [.str]), (49, [.bool]), (51, [.bool, (.int .i64)]), (52, [tR9, (.int .i64)]), (53, [(.int .i64), .bool]), (54, [tR9]), (55, [(.int .i64), (.int .i64)]), (56, [tV9]), (57, [tV9]), (58, [tV9]), (59, [.str]), (60, [.str]), (61, [.bool]), (62, [(.sl .bool), (.int .i64)]), (63, [(.int .i64)]), (64, [(.int .i64)]), (65, [tV9]), (66, [tR9, (.int .i64)]), (67, [(.int .i64), .bool]), (68, [tR9]), (69, [(.int .i64), (.int .i64)]), (70, [tR9]), (71, [tR9, (.int .i64)]), (72, [(.pair .bool .str)]), (73, [(.int .i64)]), (76, [tV9]), (78, [(.int .i64)]), (79, [(.int .i64)]), (80, [tV9, (.int .i64)]), (81, [tR9, (.int .i64)]), (82, [tR9]), (83, [(.int .i64)]), (84, [.bool]), (85, [(.int .i64), .bool]), (86, [(.pair .bool .str)]), (87, [tR9]), (88, [.str, .str, (.int .i64)]), (89, [tR9, (.int .i64)]), (90, [(.pair .bool .str)]), (92, [tV9]), (93, [(.int .i64)]), (94, [(.int .i64)]), (95, [(.int .i64)]), (96, [(.int .i64)]), (97, [(.int .i64)]), (98, [.bool]), (100, [(.int .i64)]), (101, [(.pair .bool .str)]), (102, [tR9, (.int .i64)]), (103, [.bool]), (104, [(.int .i64), .bool]), (105, [tR9, (.int .i64)]), (106, [tR9, (.int .i64)]), (107, [tV9]), (108, [(.int .i64)]), (109, [(.int .i64)]), (110, [(.int .i64)]), (111, [(.int .i64)]), (112, [tR9]), (113, [(.pair .bool .str)]), (114, [.str]), (115, [(.int .i64)]), (116, [.str]), (117, [.bool]), (118, [tR9]), (119, [(.int .i64), .bool]), (120, [.str, .bool]), (121, [.str, .str, .bool]), (122, [tR9, (.int .i64)]), (123, [tR9, (.int .i64)]), (124, [tR9]), (125, [(.pair .bool .str)]), (126, [(.pair .bool .str)]), (127, [(.int .u64), .bool]), (129, [(.int .i64)]), (130, [.str]), (134, [tR9, (.int .i64)]), (135, [.bool]), (136, [(.int .i64)]), (137, [(.pair .bool .str), (.pair .bool .str)]), (138, [.bool]), (139, [.bool]), (140, [.str, .str, (.int .i64)]), (141, [(.pair .bool .str)]), (142, [(.int .i64)]), (143, [tR9, (.int .i64)]), (144, [(.int .i64)]), (145, [tR9, (.int .i64)]), (146, [tR9]), (147, [(.int .u64), .bool]), (148, [(.pair .bool .str)]), (149, [(.pair .bool .str)]), (150, [(.pair .bool .str)]), (151, [(.pair .bool .str)]), (153, [.bool]), (154, [.str]), (155, [.str, .bool]), (157, [.str, (.int .i64)]), (158, [.bool]), (159, [.str]), (160, [.str]), (172, [(.pair .bool .str)]), (173, [(.pair .bool .str)]), (174, [(.pair .bool .str)]), (176, [.bool]), (177, [.str, (.int .i64)]), (178, [.str]), (179, [(.pair .bool .str), (.pair .bool .str), (.int .i64)]), (180, [.str]), (181, [.bool]), (183, [.bool]), (184, [.str]), (185, [.str]), (186, [.str, (.int .i64)]), (197, [.str]), (198, [.str]), (199, [.str, (.int .i64)]), (200, [(.pair .bool .str)]), (201, [(.int .i64)]), (202, [.str]), (213, [(.pair .bool .str)]), (214, [(.pair .bool .str)])]
noncomputable def annL : List (Nat × List (Nat × Path × Ann)) := [
  (3, [(3, [1, 0, 1, 1, 1], { live := [(0, .keep), (3, .im (.sl .str)), (4, .im (.sl .str)), (21, .keep)], toks := [] })]),
  (4, [(4, [1, 0, 1, 1, 1, 1, 1, 1], { live := [(6, .keep), (7, .keep), (55, .keep)], toks := [(96, [.keep, .keep, .keep, .keep, .keep, .keep, .keep]), (112, [.keep, .keep, .keep, .keep, .keep, .keep, .keep])] })]),
  (9, [(9, [0, 1, 0, 1, 1], { live := [(0, .im (.sl tA9)), (3, .keep)], toks := [] }),
    (9, [0, 1, 1, 0, 0, 1, 0, 0, 1, 0, 1, 1], { live := [(0, .im (.sl tA9)), (3, .keep), (4, .keep)], toks := [] }),
    (9, [1, 1, 0, 0, 1, 0, 0, 1, 1, 0, 0, 1, 0, 0, 1, 0, 1, 1], { live := [(0, .im (.sl tA9)), (3, .keep), (4, .keep), (57, .keep)], toks := [] })]),
  (12, [(12, [1, 1, 1, 0, 0, 1, 1], { live := [(0, .keep), (1, .im (.sl tA9)), (4, .keep), (21, .keep)], toks := [(64, [.keep, .keep, .keep, .keep, .keep, .keep, .keep])] }),
    (12, [1000012, 0, 1, 1, 0, 0, 1, 1], { live := [(0, .keep), (1, .keep), (4, .keep), (32, .keep)], toks := [] }),
    (12, [0, 1, 0, 1, 1, 1, 1], { live := [(0, .keep), (1, .im (.sl tA9)), (4, .keep), (8, .own 1099511627776 tV9), (37, .im (.sl tA9)), (38, .keep), (39, .keep)], toks := [(64, [.keep, .keep, .keep, .keep, .keep, .keep, .keep])] }),
    (19, [1000002, 0, 1], { live := [], toks := [] }),
    (12, [1, 0, 1, 0, 1, 1, 1, 1, 1], { live := [(0, .keep), (1, .im (.sl tA9)), (4, .keep), (8, .own 1099511627777 tV9), (49, .keep), (50, .keep)], toks := [(64, [.keep, .keep, .keep, .keep, .keep, .keep, .keep])] }),
    (46, [0, 1, 0, 1], { live := [(0, .im (.sl tA9)), (1, .keep), (7, .keep), (8, .keep)], toks := [(64, [.keep, .keep, .keep, .keep, .keep, .keep, .keep])] }),
    (12, [1, 1, 1, 0, 1, 0, 1, 1, 1, 1, 1], { live := [(0, .keep), (4, .keep), (8, .own 1099511627778 tV9), (49, .keep), (57, .keep)], toks := [(64, [.keep, .keep, .keep, .keep, .keep, .keep, .keep])] }),
    (12, [1, 0, 0, 1, 1, 1, 1, 1, 1, 1, 1, 1, 0, 1, 0, 1, 1, 1, 1, 1], { live := [(4, .keep), (8, .own 1099511627779 tV9), (87, .keep)], toks := [(64, [.keep, .keep, .keep, .keep, .keep, .keep, .keep])] }),
    (12, [1, 1, 1, 1, 1, 1, 1, 1, 1, 0, 1, 0, 1, 1, 1, 1, 1], { live := [(0, .keep), (4, .keep), (8, .own 1099511627780 tV9), (49, .keep), (70, .keep)], toks := [(64, [.keep, .keep, .keep, .keep, .keep, .keep, .keep])] })]),
  (14, [(14, [1, 0, 1, 1, 1], { live := [(0, .keep), (1, .im (.sl tA9)), (4, .keep), (35, .keep)], toks := [(64, [.keep, .keep, .keep, .keep, .keep, .keep, .keep])] }),
    (14, [0, 1, 0, 1, 1, 1, 1, 1], { live := [(0, .keep), (1, .im (.sl tA9)), (4, .keep), (7, .own 1099511627781 tV9), (8, .keep)], toks := [(64, [.keep, .keep, .keep, .keep, .keep, .keep, .keep])] }),
    (14, [1, 0, 1, 1, 1, 1, 1, 1, 1], { live := [(0, .keep), (1, .im (.sl tA9)), (4, .keep), (7, .own 1099511627782 tV9), (51, .keep), (57, .keep)], toks := [(64, [.keep, .keep, .keep, .keep, .keep, .keep, .keep])] }),
    (14, [1, 1, 1, 0, 1, 1, 1, 1, 1, 1, 1], { live := [(0, .keep), (4, .keep), (7, .own 1099511627783 tV9), (51, .keep), (64, .keep)], toks := [(64, [.keep, .keep, .keep, .keep, .keep, .keep, .keep])] }),
    (14, [1, 0, 0, 1, 1, 1, 1, 1, 1, 1, 1, 1, 1, 1, 0, 1, 1, 1, 1, 1, 1, 1], { live := [(4, .keep), (7, .own 1099511627784 tV9), (103, .keep)], toks := [(64, [.keep, .keep, .keep, .keep, .keep, .keep, .keep])] }),
    (14, [1, 1, 1, 1, 1, 1, 1, 1, 1, 1, 1, 1, 1, 1, 1, 0, 1, 1, 1, 1, 1, 1, 1], { live := [(0, .keep), (4, .keep), (7, .own 1099511627785 tV9), (51, .keep), (126, .keep)], toks := [(64, [.keep, .keep, .keep, .keep, .keep, .keep, .keep])] })]),
  (16, [(16, [1, 0, 1], { live := [(0, .keep), (2, .keep), (8, .keep)], toks := [(32, [.keep, .keep, .keep, .keep, .keep, .keep, .keep])] }),
    (16, [1, 1], { live := [(0, .keep), (2, .keep)], toks := [(32, [.keep, .keep, .keep, .keep, .keep, .keep, .keep])] })]),
  (17, [(17, [1, 1, 1, 0, 1, 0, 1], { live := [(0, .keep), (5, .keep), (8, .keep)], toks := [] }),
    (17, [1, 1, 1, 1, 1, 0, 1, 0, 1], { live := [(0, .keep), (5, .keep), (11, .keep)], toks := [] }),
    (17, [1, 1, 1, 1, 1, 1, 1, 0, 1, 0, 1], { live := [(0, .keep), (5, .keep), (15, .keep)], toks := [] })]),
  (18, [(18, [1, 1], { live := [(0, .keep), (2, .keep)], toks := [(32, [.keep, .keep, .keep, .keep, .keep, .keep, .keep])] })]),
  (20, [(20, [1, 0, 1, 1], { live := [(1, .keep), (33, .keep)], toks := [(16, [.im (.sl tV9), .keep, .keep, .keep, .keep])] }),
    (20, [1000002, 0, 1, 1, 1], { live := [], toks := [] }),
    (47, [1000002, 0, 1], { live := [], toks := [] }),
    (75, [0, 1, 0, 1], { live := [(0, .im (.sl tV9)), (1, .keep), (7, .keep), (8, .keep)], toks := [] }),
    (75, [1000005, 0, 1, 0, 0, 1, 1, 0, 0, 1, 0, 1], { live := [(0, .keep), (1, .keep), (5, .keep), (7, .keep), (8, .keep)], toks := [] })]),
  (22, [(22, [1000001, 0, 0, 1, 1], { live := [(0, .keep), (4, .keep), (5, .keep), (6, .keep)], toks := [] }),
    (22, [1000000, 0, 1, 0, 1, 1], { live := [(0, .keep), (4, .keep), (5, .keep), (6, .keep)], toks := [] }),
    (77, [0, 1], { live := [(0, .keep), (7, .im (.sl tA9)), (8, .keep), (9, .keep)], toks := [(64, [.keep, .keep, .keep, .keep, .keep, .keep, .keep]), (80, [.keep]), (96, [.keep])] }),
    (77, [0, 1, 1, 0, 0, 1, 1, 0, 0, 1], { live := [(0, .keep), (4, .keep), (7, .im (.sl tA9)), (8, .keep), (9, .keep), (14, .im (.sl tV9)), (15, .keep), (16, .keep)], toks := [(268304448, [.im (.sl tV9), .keep, .keep, .keep, .keep]), (64, [.keep, .keep, .keep, .keep, .keep, .keep, .keep]), (80, [.keep]), (96, [.keep])] }),
    (77, [1, 0, 1, 0, 0, 1, 1, 0, 0, 1, 1, 0, 0, 1, 1, 0, 0, 1], { live := [(0, .keep), (4, .keep), (6, .keep), (7, .im (.sl tA9)), (8, .keep), (9, .keep), (14, .im (.sl tV9)), (15, .keep), (16, .keep), (31, .keep)], toks := [(268304448, [.im (.sl tV9), .keep, .keep, .keep, .keep]), (268304480, [.keep, .keep, .keep, .keep, .keep, .keep, .keep]), (64, [.keep, .keep, .keep, .keep, .keep, .keep, .keep]), (80, [.keep]), (96, [.keep])] }),
    (77, [1000005, 0, 1, 1, 0, 0, 1, 1, 0, 0, 1, 1, 0, 0, 1, 1, 0, 0, 1], { live := [(0, .keep), (4, .keep), (7, .keep), (8, .keep), (9, .keep), (14, .keep), (15, .keep), (16, .keep)], toks := [] }),
    (77, [1, 1, 1, 0, 0, 1, 1, 0, 0, 1, 1, 0, 0, 1, 1, 0, 0, 1], { live := [(0, .keep), (4, .keep), (7, .im (.sl tA9)), (8, .keep), (9, .keep), (14, .im (.sl tV9)), (15, .keep), (16, .keep), (38, .keep)], toks := [(268304448, [.im (.sl tV9), .keep, .keep, .keep, .keep]), (64, [.keep, .keep, .keep, .keep, .keep, .keep, .keep]), (80, [.keep]), (96, [.keep])] })]),
  (25, [(25, [1, 1], { live := [(0, .keep), (3, .keep), (5, .keep)], toks := [(48, [.keep, .keep, .keep, .keep, .keep, .keep, .keep])] })]),
  (26, [(26, [1, 0, 1, 1, 1, 1], { live := [(0, .im (.sl tV9)), (2, .keep), (5, .keep), (35, .keep)], toks := [(32, [.keep, .keep, .keep, .keep, .keep, .keep, .keep])] })]),
  (27, [(27, [0, 0, 1, 1], { live := [(1, .im (.sl tV9)), (2, .keep), (4, .keep)], toks := [(32, [.keep, .keep, .keep, .keep, .keep, .keep, .keep]), (64, [.keep, .keep, .keep, .keep, .keep, .keep, .keep])] })]),
  (28, [(28, [1, 0, 0, 1, 1, 1, 1, 1, 0, 1, 0, 1], { live := [(3, .keep), (4, .keep), (35, .keep)], toks := [(48, [.keep, .keep, .keep, .keep, .keep, .keep, .keep]), (64, [.keep, .keep, .keep, .keep, .keep, .keep, .keep])] })]),
  (29, [(29, [1, 0, 1], { live := [(1, .keep), (33, .keep)], toks := [(16, [.keep, .keep, .keep])] })]),
  (30, [(30, [0, 1, 0, 1, 1], { live := [(0, .keep), (3, .keep)], toks := [] }),
    (30, [1, 0, 0, 1, 0, 0, 1, 0, 1, 1], { live := [(0, .keep), (3, .keep), (22, .keep)], toks := [] })]),
  (31, [(31, [0, 1, 0, 1], { live := [(0, .im (.sl .str)), (1, .keep), (5, .keep)], toks := [] })]),
  (32, [(32, [1, 1, 1, 0, 1, 1], { live := [(4, .keep), (7, .keep)], toks := [] }),
    (32, [1, 1, 1, 1, 1, 0, 1, 1], { live := [(4, .keep), (10, .keep)], toks := [] }),
    (32, [1, 1, 1, 1, 1, 1, 1, 0, 1, 1], { live := [(4, .keep), (14, .keep)], toks := [] })]),
  (33, [(33, [0, 1, 0, 1], { live := [(0, .im (.sl tA9)), (3, .keep)], toks := [] })]),
  (35, [(35, [0, 1, 0, 1, 1, 1, 1, 1], { live := [(0, .keep), (4, .keep), (5, .im (.sl .bool)), (7, .keep), (8, .keep)], toks := [(64, [.keep, .keep, .keep, .keep, .keep, .keep, .keep])] }),
    (35, [1, 1, 0, 0, 1, 0, 1, 1, 1, 1, 1], { live := [(0, .keep), (4, .keep), (5, .im (.sl .bool)), (7, .keep), (8, .keep)], toks := [(64, [.keep, .keep, .keep, .keep, .keep, .keep, .keep])] })]),
  (37, [(37, [1, 0, 0, 1, 1, 1, 0, 1, 1, 1], { live := [(1, .keep), (28, .keep)], toks := [(16, [.keep, .keep, .keep, .keep, .keep, .keep, .keep])] })]),
  (38, [(38, [1, 0, 0, 1, 0, 1, 1], { live := [(3, .keep), (4, .keep), (24, .keep)], toks := [(48, [.keep, .keep, .keep, .keep, .keep, .keep, .keep]), (64, [.keep, .keep, .keep, .keep, .keep, .keep, .keep])] }),
    (38, [1, 0, 0, 1, 1, 1, 0, 1, 1], { live := [(3, .keep), (4, .keep), (46, .keep)], toks := [(48, [.keep, .keep, .keep, .keep, .keep, .keep, .keep]), (64, [.keep, .keep, .keep, .keep, .keep, .keep, .keep])] }),
    (38, [1, 0, 1, 0, 1, 0, 1, 1], { live := [(4, .keep), (32, .keep)], toks := [(64, [.keep, .keep, .keep, .keep, .keep, .keep, .keep])] })]),
  (39, [(39, [1, 0, 1, 1, 1, 1], { live := [(0, .im (.sl tV9)), (2, .keep), (5, .keep), (36, .keep)], toks := [(32, [.keep, .keep, .keep, .keep, .keep, .keep, .keep])] })]),
  (40, [(40, [0, 1, 0, 1, 1], { live := [(0, .im (.sl tV9)), (2, .keep), (3, .keep)], toks := [(32, [.keep, .keep, .keep, .keep, .keep, .keep, .keep])] })]),
  (45, [(45, [1000000, 0, 1], { live := [(0, .keep)], toks := [] }),
    (45, [1, 0, 1, 1], { live := [(0, .keep), (3, .keep), (10, .keep)], toks := [(48, [.keep, .keep, .keep, .keep, .keep, .keep, .keep, .keep])] })]),
  (51, [(51, [1, 1, 0, 0, 1, 1, 1, 0, 1, 0, 1, 1], { live := [(1, .keep), (34, .keep)], toks := [(16, [.keep, .keep, .keep, .keep, .keep, .keep, .keep])] })]),
  (55, [(55, [1000004, 0, 0, 1], { live := [(2, .keep), (3, .keep)], toks := [] }),
    (55, [1, 0, 1], { live := [(2, .keep), (3, .keep), (6, .keep)], toks := [(32, [.keep, .keep, .keep, .keep, .keep, .keep, .keep]), (48, [.keep, .keep, .keep, .keep, .keep, .keep, .keep])] })]),
  (56, [(56, [1, 0, 0, 1], { live := [(1, .keep), (2, .keep), (3, .keep)], toks := [(16, [.keep, .keep, .keep, .keep, .keep, .keep, .keep]), (32, [.keep, .keep, .keep, .keep, .keep, .keep, .keep])] })]),
  (58, [(58, [1, 1, 1], { live := [(2, .keep), (3, .keep)], toks := [(32, [.keep, .keep, .keep, .keep, .keep, .keep, .keep])] })]),
  (61, [(61, [1, 0, 1, 1], { live := [(1, .keep), (3, .keep), (39, .keep)], toks := [(16, [.im (.sl tV9), .keep, .keep, .keep, .keep])] }),
    (61, [0, 1, 0, 1, 1, 1], { live := [(1, .keep), (3, .keep), (4, .keep)], toks := [(16, [.im (.sl tV9), .keep, .keep, .keep, .keep])] })]),
  (62, [(62, [0, 1, 0, 1, 1], { live := [(0, .im (.sl tA9)), (4, .own 1099511627786 .bool), (5, .keep)], toks := [] }),
    (62, [0, 1, 1, 0, 0, 1, 0, 0, 1, 0, 1, 1], { live := [(0, .im (.sl tA9)), (4, .own 1099511627787 .bool), (5, .keep), (8, .keep)], toks := [] }),
    (62, [1, 1, 1, 0, 0, 1, 0, 0, 1, 1, 0, 0, 1, 0, 0, 1, 0, 1, 1], { live := [(0, .im (.sl tA9)), (4, .own 1099511627788 .bool), (5, .keep), (8, .keep), (9, .keep), (72, .keep)], toks := [(144, [.keep, .keep, .keep, .keep, .keep, .keep, .keep])] }),
    (62, [1, 1, 0, 0, 1, 1, 0, 0, 1, 0, 0, 1, 0, 1, 1], { live := [(0, .im (.sl tA9)), (4, .own 1099511627789 .bool), (5, .keep), (8, .keep)], toks := [] })]),
  (68, [(68, [1, 1, 1], { live := [(2, .keep), (3, .keep)], toks := [(32, [.keep, .keep, .keep]), (48, [.keep, .keep, .keep])] })]),
  (71, [(71, [1, 0, 1, 1, 1, 1, 1, 1, 1], { live := [(4, .keep), (6, .keep), (7, .keep), (9, .keep), (10, .keep), (45, .keep)], toks := [(64, [.keep, .keep, .keep]), (96, [.keep, .keep]), (112, [.keep, .keep])] })]),
  (73, [(73, [0, 1, 0, 1], { live := [(0, .im (.sl .str)), (1, .keep), (7, .keep), (8, .keep)], toks := [] })]),
  (76, [(76, [1, 1], { live := [(1, .keep), (2, .keep)], toks := [(16, [.keep, .keep, .keep]), (32, [.keep, .keep, .keep, .keep, .keep, .keep, .keep])] })]),
  (80, [(80, [1, 1, 1, 0, 1, 0, 1, 1], { live := [(0, .keep), (2, .keep), (16, .keep)], toks := [(32, [.keep, .keep, .keep, .keep, .keep, .keep, .keep])] })]),
  (81, [(81, [1, 1, 1, 1, 1, 1, 1], { live := [(2, .keep), (8, .keep), (9, .keep)], toks := [(32, [.keep, .keep, .keep]), (128, [.keep, .keep, .keep])] }),
    (81, [1, 0, 1, 1, 1, 1, 1, 1], { live := [(2, .keep), (8, .keep), (9, .keep), (37, .keep)], toks := [(32, [.keep, .keep, .keep]), (128, [.keep, .keep, .keep])] }),
    (81, [1, 1, 1, 1, 1, 1], { live := [(2, .keep), (4, .keep), (8, .keep), (9, .keep)], toks := [(32, [.keep, .keep, .keep]), (128, [.keep, .keep, .keep])] })]),
  (85, [(85, [1, 0, 1, 1, 1, 1], { live := [(4, .keep), (26, .keep)], toks := [] }),
    (85, [1, 1, 1, 1], { live := [(1, .keep), (4, .keep), (5, .keep)], toks := [(16, [.keep, .keep])] })]),
  (95, [(95, [0, 1, 0, 1, 1], { live := [(3, .keep), (6, .im (.sl (.int .i64))), (7, .keep), (8, .keep)], toks := [] })]),
  (98, [(98, [0, 1, 0, 1], { live := [(0, .keep), (6, .im (.sl (.int .u8))), (7, .keep), (8, .keep)], toks := [] }),
    (98, [1, 1, 0, 0, 1, 1, 0, 0, 1, 0, 1], { live := [(0, .keep), (6, .im (.sl (.int .u8))), (7, .keep), (8, .keep), (17, .keep)], toks := [] })]),
  (102, [(102, [1, 1, 1, 1, 1, 1, 1], { live := [(2, .keep), (5, .keep), (6, .keep)], toks := [(32, [.keep, .keep, .keep]), (80, [.keep, .keep, .keep])] }),
    (102, [1, 0, 1, 1, 1, 1, 1, 1], { live := [(2, .keep), (5, .keep), (6, .keep), (43, .keep)], toks := [(32, [.keep, .keep, .keep]), (80, [.keep, .keep, .keep])] }),
    (102, [1, 1, 1, 1, 1, 1], { live := [(2, .keep), (4, .keep), (5, .keep), (6, .keep)], toks := [(32, [.keep, .keep, .keep]), (80, [.keep, .keep, .keep])] }),
    (102, [1, 1, 1], { live := [(0, .keep), (2, .keep), (4, .keep)], toks := [(32, [.keep, .keep, .keep])] }),
    (102, [1, 1], { live := [(0, .keep), (2, .keep), (4, .keep)], toks := [(32, [.keep, .keep, .keep])] })]),
  (104, [(104, [1, 0, 1, 1, 1, 1], { live := [(1, .keep), (4, .keep), (30, .keep)], toks := [(16, [.keep, .keep])] })]),
  (110, [(110, [0, 1, 0, 1], { live := [(0, .keep), (1, .keep), (5, .keep)], toks := [] }),
    (110, [1, 0, 0, 0, 1, 0, 1], { live := [(0, .keep), (1, .keep), (5, .keep), (15, .keep)], toks := [] })]),
  (117, [(117, [1, 0, 0, 1], { live := [(1, .keep), (3, .keep)], toks := [(16, [.keep, .keep, .keep])] })]),
  (119, [(119, [1000000, 0, 0, 1], { live := [(0, .keep)], toks := [] }),
    (119, [0, 1, 0, 1], { live := [(0, .keep), (6, .keep), (7, .keep)], toks := [] }),
    (119, [1, 1, 0, 0, 1, 1, 0, 0, 1, 0, 1], { live := [(0, .keep), (4, .keep), (6, .keep), (7, .keep), (17, .keep)], toks := [] })]),
  (122, [(122, [1, 0, 0, 0, 0, 0, 0, 0, 0, 0, 0, 1, 1, 1], { live := [(4, .keep), (6, .keep), (7, .keep), (8, .keep), (9, .keep), (20, .keep)], toks := [(64, [.keep, .keep, .keep])] }),
    (122, [1, 0, 0, 1, 1, 1], { live := [(4, .keep), (6, .keep), (7, .keep), (8, .keep)], toks := [(64, [.keep, .keep, .keep])] })]),
  (123, [(123, [1, 0, 0, 1, 1], { live := [(0, .keep), (2, .keep), (4, .keep), (5, .keep), (15, .keep)], toks := [(32, [.keep, .keep, .keep])] })]),
  (124, [(124, [1, 1, 1], { live := [(1, .keep), (2, .keep)], toks := [(16, [.keep, .keep, .keep]), (32, [.keep, .keep, .keep])] })]),
  (134, [(134, [1, 0, 1, 1, 1, 1], { live := [(2, .keep), (3, .keep), (4, .keep), (6, .keep), (7, .keep), (44, .keep)], toks := [(32, [.keep, .keep]), (48, [.keep, .keep]), (64, [.keep, .keep, .keep])] }),
    (134, [1, 1, 1, 1], { live := [(2, .keep), (3, .keep), (4, .keep), (6, .keep), (7, .keep)], toks := [(32, [.keep, .keep]), (48, [.keep, .keep]), (64, [.keep, .keep, .keep])] })]),
  (136, [(136, [1, 0, 0, 1, 1, 1], { live := [(2, .keep), (3, .keep), (5, .keep), (15, .keep)], toks := [(32, [.keep, .keep]), (48, [.keep, .keep])] })]),
  (143, [(143, [1, 0, 1, 1, 1, 1, 1], { live := [(0, .keep), (2, .keep), (5, .keep), (6, .keep), (32, .keep)], toks := [(32, [.keep, .keep, .keep])] }),
    (143, [1, 1, 1, 1, 1], { live := [(0, .keep), (2, .keep), (4, .keep), (5, .keep), (6, .keep)], toks := [(32, [.keep, .keep, .keep])] })]),
  (144, [(144, [0, 1, 0, 1], { live := [(0, .keep), (1, .keep), (5, .keep)], toks := [] })]),
  (145, [(145, [1, 0, 1, 1, 1], { live := [(4, .keep), (6, .keep), (7, .keep), (8, .keep), (9, .keep), (25, .keep)], toks := [(64, [.keep, .keep, .keep])] }),
    (145, [1, 0, 1, 1, 1, 1], { live := [(4, .keep), (6, .keep), (8, .keep), (32, .keep)], toks := [(64, [.keep, .keep, .keep])] })]),
  (157, [(157, [1, 0, 0, 1], { live := [(0, .keep), (10, .keep)], toks := [] }),
    (157, [0, 0, 1, 1, 1], { live := [(0, .keep), (4, .keep)], toks := [] }),
    (157, [0, 1, 0, 1, 1, 0, 1, 0, 0, 0, 1, 1, 1], { live := [(0, .keep), (4, .keep), (5, .keep), (6, .keep), (7, .keep), (30, .im (.sl (.int .u8))), (31, .keep), (32, .keep)], toks := [] })]),
  (158, [(158, [0, 1, 0, 1], { live := [(0, .keep), (6, .im (.sl (.int .u8))), (7, .keep), (8, .keep)], toks := [] }),
    (158, [1, 1, 0, 0, 1, 1, 0, 0, 1, 0, 1], { live := [(0, .keep), (6, .im (.sl (.int .u8))), (7, .keep), (8, .keep), (17, .keep)], toks := [] })]),
  (176, [(176, [0, 1, 0, 1], { live := [(0, .keep), (3, .keep)], toks := [] }),
    (176, [1, 0, 0, 1, 0, 0, 1, 0, 1], { live := [(0, .keep), (3, .keep), (19, .keep)], toks := [] })]),
  (177, [(177, [0, 1, 0, 1], { live := [(0, .keep), (4, .keep)], toks := [] }),
    (177, [1, 0, 0, 1, 0, 0, 1, 0, 1], { live := [(0, .keep), (4, .keep), (22, .keep)], toks := [] }),
    (177, [0, 1, 0, 1, 1, 1, 1, 1], { live := [(0, .keep), (5, .keep), (6, .keep)], toks := [] })]),
  (179, [(179, [1, 1, 1, 1, 1, 1, 1], { live := [(2, .keep), (3, .keep), (4, .keep), (5, .keep), (10, .keep)], toks := [(32, [.keep, .keep]), (48, [.keep, .keep]), (64, [.keep, .keep]), (80, [.keep, .keep]), (160, [.keep, .keep])] }),
    (179, [1, 0, 1, 1, 1, 1, 1, 1], { live := [(2, .keep), (3, .keep), (4, .keep), (5, .keep), (10, .keep), (44, .keep)], toks := [(32, [.keep, .keep]), (48, [.keep, .keep]), (64, [.keep, .keep]), (80, [.keep, .keep]), (160, [.keep, .keep])] })]),
  (183, [(183, [0, 1, 0, 1], { live := [(6, .im (.sl (.int .u8))), (7, .keep), (8, .keep)], toks := [] }),
    (183, [1, 1, 0, 0, 1, 1, 0, 0, 1, 0, 1], { live := [(6, .im (.sl (.int .u8))), (7, .keep), (8, .keep), (17, .keep)], toks := [] })]),
  (197, [(197, [0, 1, 0, 1, 1, 1, 1], { live := [(0, .keep), (1, .keep), (5, .own 1099511627790 (.int .i64)), (6, .keep), (7, .keep)], toks := [] }),
    (197, [1, 1, 1, 0, 0, 1, 0, 0, 1, 0, 1, 1, 1, 1], { live := [(0, .keep), (1, .keep), (5, .own 1099511627791 (.int .i64)), (6, .keep), (7, .keep), (8, .keep)], toks := [] }),
    (197, [1, 0, 0, 0, 1, 0, 1, 1, 1, 1], { live := [(0, .keep), (1, .keep), (5, .own 1099511627792 (.int .i64)), (6, .keep), (7, .keep), (22, .keep)], toks := [] })]),
  (202, [(202, [0, 1, 0, 1, 1], { live := [(0, .im (.sl (.int .i64))), (3, .own 1099511627793 (.int .u8)), (4, .keep)], toks := [] })])]
noncomputable def extL : List ((j : Nat) × (den (tyL ((look ptsL j).getD [])) → Option (den (tyL ((look rtsL j).getD []))))) := [⟨59, Q.trimQ⟩, ⟨60, Q.gcdQ⟩, ⟨88, Q.divQ⟩, ⟨115, Q.bitsQ⟩, ⟨116, Q.ofQ⟩, ⟨121, cutF⟩, ⟨127, Q.smallQ⟩, ⟨129, Q.cmpQ⟩, ⟨130, Q.trimQ⟩, ⟨140, Q.divQ⟩, ⟨142, Q.cmpQ⟩, ⟨147, Q.smallQ⟩, ⟨154, Q.gcdQ⟩, ⟨160, Q.ofQ⟩, ⟨180, Q.mulQ⟩, ⟨184, Q.addQ⟩, ⟨185, Q.mulQ⟩, ⟨186, Q.powQ⟩, ⟨198, Q.addQ⟩, ⟨199, Q.powQ⟩]
noncomputable def CT : Ctx where
  ti := look tis
  fn := look fns
  disp := fun _ f _ => match inls.elem f with
    | true => .inl
    | false => .spec f
  fid := fun i => i
  pts := fun i => (look ptsL i).getD []
  rts := fun i => (look rtsL i).getD []
  ext := lookE extL
  ann := fun i f p => match look annL i with
    | some l => lookP l f p
    | none => none
  inv := Inv
noncomputable section
abbrev abacistlaw20_FlogDoes (x0 : TB9) (x1 : List (TA9)) : Option (Bool) := (top CT).callF 5 (x0, x1)
abbrev flog_Names : Option (List (TB9)) := (top CT).callF 6 ()
abbrev abacistref20_Names : Option (List (TB9)) := (top CT).callF 7 ()
abbrev abacistlaw20_known : Option (Bool) := (top CT).callF 8 ()
abbrev abacistlaw20_light (x0 : List (TA9)) : Option (Bool) := (top CT).callF 9 (x0)
abbrev abacistlaw20_light_1 (a1 : List (TA9)) (a2 : Int) : Option (Bool) := (top CT).stage 9 [] 9 [0, 1, 0, 1, 1] { env := [(0, (.sl tA9 a1 false)), (3, (.int .i64 a2))], heap := [], salt := 0 }
abbrev abacistlaw20_light_2 (a1 : List (TA9)) (a2 : Int) (a3 : Int) : Option (Bool) := (top CT).stage 9 [] 9 [0, 1, 1, 0, 0, 1, 0, 0, 1, 0, 1, 1] { env := [(0, (.sl tA9 a1 false)), (3, (.int .i64 a2)), (4, (.int .i64 a3))], heap := [], salt := 0 }
abbrev abacistlaw20_light_3 (a1 : List (TA9)) (a2 : Int) (a3 : Int) (a4 : Bool) : Option (Bool) := (top CT).stage 9 [] 9 [1, 1, 0, 0, 1, 0, 0, 1, 1, 0, 0, 1, 0, 0, 1, 0, 1, 1] { env := [(0, (.sl tA9 a1 false)), (3, (.int .i64 a2)), (4, (.int .i64 a3)), (57, (.bool a4))], heap := [], salt := 0 }
abbrev abacistref08_Truth (x0 : Bool) : Option (TV9) := (top CT).callF 11 (x0)
abbrev flog_Do (x0 : TB9) (x1 : List (TA9)) : Option (TV9) := (top CT).callF 12 (x0, x1)
abbrev flog_Do_1 (a1 : TB9) (a2 : List (TA9)) (a3 : Bool) (a4 : TV9) : Option (TV9) := (top CT).stage 12 [] 12 [1, 1, 1, 0, 0, 1, 1] { env := [(0, (.str a1)), (1, (.sl tA9 a2 false)), (4, (.ptr 64 0)), (21, (.bool a3))], heap := [(64, .box [(.int .i64 a4.1), (.bool a4.2.1.1), (.str a4.2.1.2.1), (.str a4.2.1.2.2), (.str a4.2.2.1), (.bool a4.2.2.2.1), (.int .i64 a4.2.2.2.2)])], salt := 0 }
abbrev flog_Do_2 (a1 : List (TA9)) (a2 : TV9) (a3 : TB9) (a4 : List (TA9)) (a5 : Bool) : Option (TV9) := (top CT).stage 12 [{ f := 12, path := [0, 1, 1, 0, 0, 1, 1], op := 12, rest := [13, 14], env := [(0, (.str a3)), (1, (.sl tA9 a4 false)), (4, (.ptr 64 0)), (32, (.bool a5))], salt := 0 }] 19 [] { env := [(0, (.sl tA9 a1 false)), (1, (.func 20 [] []))], heap := [(64, .box [(.int .i64 a2.1), (.bool a2.2.1.1), (.str a2.2.1.2.1), (.str a2.2.1.2.2), (.str a2.2.2.1), (.bool a2.2.2.2.1), (.int .i64 a2.2.2.2.2)])], salt := 35 }
abbrev flog_Do_3 (a1 : TB9) (a2 : List (TA9)) (a3 : List (TA9)) (a4 : Int) (a5 : Int) (a6 : List (TV9)) (a7 : TV9) : Option (TV9) := (top CT).stage 12 [] 12 [0, 1, 0, 1, 1, 1, 1] { env := [(0, (.str a1)), (1, (.sl tA9 a2 false)), (4, (.ptr 64 0)), (8, (.who 1099511627776 false)), (37, (.sl tA9 a3 false)), (38, (.int .i64 a4)), (39, (.int .i64 a5))], heap := [(1099511627776, .arr tV9 a6), (64, .box [(.int .i64 a7.1), (.bool a7.2.1.1), (.str a7.2.1.2.1), (.str a7.2.1.2.2), (.str a7.2.2.1), (.bool a7.2.2.2.1), (.int .i64 a7.2.2.2.2)])], salt := 0 }
abbrev flog_Do_4 (a1 : List (TA9)) (a2 : TV9) (a3 : TB9) (a4 : List (TA9)) (a5 : Bool) : Option (TV9) := (top CT).stage 12 [{ f := 19, path := [0, 1], op := 2, rest := [3, 4], env := [], salt := 35 }, { f := 12, path := [0, 1, 1, 0, 0, 1, 1], op := 12, rest := [13, 14], env := [(0, (.str a3)), (1, (.sl tA9 a4 false)), (4, (.ptr 64 0)), (32, (.bool a5))], salt := 0 }] 46 [] { env := [(0, (.sl tA9 a1 false)), (1, (.func 20 [] []))], heap := [(64, .box [(.int .i64 a2.1), (.bool a2.2.1.1), (.str a2.2.1.2.1), (.str a2.2.1.2.2), (.str a2.2.2.1), (.bool a2.2.2.2.1), (.int .i64 a2.2.2.2.2)])], salt := 143368 }
abbrev flog_Do_5 (a1 : TB9) (a2 : List (TA9)) (a3 : TB9) (a4 : Bool) (a5 : List (TV9)) (a6 : TV9) : Option (TV9) := (top CT).stage 12 [] 12 [1, 0, 1, 0, 1, 1, 1, 1, 1] { env := [(0, (.str a1)), (1, (.sl tA9 a2 false)), (4, (.ptr 64 0)), (8, (.who 1099511627777 false)), (49, (.str a3)), (50, (.bool a4))], heap := [(1099511627777, .arr tV9 a5), (64, .box [(.int .i64 a6.1), (.bool a6.2.1.1), (.str a6.2.1.2.1), (.str a6.2.1.2.2), (.str a6.2.2.1), (.bool a6.2.2.2.1), (.int .i64 a6.2.2.2.2)])], salt := 0 }
abbrev flog_Do_6 (a1 : List (TA9)) (a2 : Int) (a3 : Int) (a4 : TV9) (a5 : TB9) (a6 : List (TA9)) (a7 : Bool) : Option (TV9) := (top CT).stage 12 [{ f := 19, path := [0, 1], op := 2, rest := [3, 4], env := [], salt := 35 }, { f := 12, path := [0, 1, 1, 0, 0, 1, 1], op := 12, rest := [13, 14], env := [(0, (.str a5)), (1, (.sl tA9 a6 false)), (4, (.ptr 64 0)), (32, (.bool a7))], salt := 0 }] 46 [0, 1, 0, 1] { env := [(0, (.sl tA9 a1 false)), (1, (.func 20 [] [])), (7, (.int .i64 a2)), (8, (.int .i64 a3))], heap := [(64, .box [(.int .i64 a4.1), (.bool a4.2.1.1), (.str a4.2.1.2.1), (.str a4.2.1.2.2), (.str a4.2.2.1), (.bool a4.2.2.2.1), (.int .i64 a4.2.2.2.2)])], salt := 143368 }
abbrev flog_Do_7 (a1 : TB9) (a2 : TB9) (a3 : Bool) (a4 : List (TV9)) (a5 : TV9) : Option (TV9) := (top CT).stage 12 [] 12 [1, 1, 1, 0, 1, 0, 1, 1, 1, 1, 1] { env := [(0, (.str a1)), (4, (.ptr 64 0)), (8, (.who 1099511627778 false)), (49, (.str a2)), (57, (.bool a3))], heap := [(1099511627778, .arr tV9 a4), (64, .box [(.int .i64 a5.1), (.bool a5.2.1.1), (.str a5.2.1.2.1), (.str a5.2.1.2.2), (.str a5.2.2.1), (.bool a5.2.2.2.1), (.int .i64 a5.2.2.2.2)])], salt := 0 }
abbrev flog_Do_8 (a1 : TB9) (a2 : TB9) (a3 : Bool) (a4 : List (TV9)) (a5 : TV9) : Option (TV9) := (top CT).stage 12 [] 12 [1, 1, 1, 1, 1, 1, 1, 1, 1, 0, 1, 0, 1, 1, 1, 1, 1] { env := [(0, (.str a1)), (4, (.ptr 64 0)), (8, (.who 1099511627780 false)), (49, (.str a2)), (70, (.bool a3))], heap := [(1099511627780, .arr tV9 a4), (64, .box [(.int .i64 a5.1), (.bool a5.2.1.1), (.str a5.2.1.2.1), (.str a5.2.1.2.2), (.str a5.2.2.1), (.bool a5.2.2.2.1), (.int .i64 a5.2.2.2.2)])], salt := 0 }
abbrev flog_Do_9 (a1 : Bool) (a2 : List (TV9)) (a3 : TV9) : Option (TV9) := (top CT).stage 12 [] 12 [1, 0, 0, 1, 1, 1, 1, 1, 1, 1, 1, 1, 0, 1, 0, 1, 1, 1, 1, 1] { env := [(4, (.ptr 64 0)), (8, (.who 1099511627779 false)), (87, (.bool a1))], heap := [(1099511627779, .arr tV9 a2), (64, .box [(.int .i64 a3.1), (.bool a3.2.1.1), (.str a3.2.1.2.1), (.str a3.2.1.2.2), (.str a3.2.2.1), (.bool a3.2.2.2.1), (.int .i64 a3.2.2.2.2)])], salt := 0 }
abbrev abacistref08_Right (x0 : TV9) : Option (Bool) := (top CT).callF 13 (x0)
abbrev abacistref20_Do (x0 : TB9) (x1 : List (TA9)) : Option (TV9) := (top CT).callF 14 (x0, x1)
abbrev abacistref20_Do_1 (a1 : TB9) (a2 : List (TA9)) (a3 : Bool) (a4 : TV9) : Option (TV9) := (top CT).stage 14 [] 14 [1, 0, 1, 1, 1] { env := [(0, (.str a1)), (1, (.sl tA9 a2 false)), (4, (.ptr 64 0)), (35, (.bool a3))], heap := [(64, .box [(.int .i64 a4.1), (.bool a4.2.1.1), (.str a4.2.1.2.1), (.str a4.2.1.2.2), (.str a4.2.2.1), (.bool a4.2.2.2.1), (.int .i64 a4.2.2.2.2)])], salt := 0 }
abbrev abacistref20_Do_2 (a1 : TB9) (a2 : List (TA9)) (a3 : Int) (a4 : List (TV9)) (a5 : TV9) : Option (TV9) := (top CT).stage 14 [] 14 [0, 1, 0, 1, 1, 1, 1, 1] { env := [(0, (.str a1)), (1, (.sl tA9 a2 false)), (4, (.ptr 64 0)), (7, (.who 1099511627781 false)), (8, (.int .i64 a3))], heap := [(1099511627781, .arr tV9 a4), (64, .box [(.int .i64 a5.1), (.bool a5.2.1.1), (.str a5.2.1.2.1), (.str a5.2.1.2.2), (.str a5.2.2.1), (.bool a5.2.2.2.1), (.int .i64 a5.2.2.2.2)])], salt := 0 }
abbrev abacistref20_Do_3 (a1 : TB9) (a2 : List (TA9)) (a3 : TB9) (a4 : Bool) (a5 : List (TV9)) (a6 : TV9) : Option (TV9) := (top CT).stage 14 [] 14 [1, 0, 1, 1, 1, 1, 1, 1, 1] { env := [(0, (.str a1)), (1, (.sl tA9 a2 false)), (4, (.ptr 64 0)), (7, (.who 1099511627782 false)), (51, (.str a3)), (57, (.bool a4))], heap := [(1099511627782, .arr tV9 a5), (64, .box [(.int .i64 a6.1), (.bool a6.2.1.1), (.str a6.2.1.2.1), (.str a6.2.1.2.2), (.str a6.2.2.1), (.bool a6.2.2.2.1), (.int .i64 a6.2.2.2.2)])], salt := 0 }
abbrev abacistref20_Do_4 (a1 : TB9) (a2 : TB9) (a3 : Bool) (a4 : List (TV9)) (a5 : TV9) : Option (TV9) := (top CT).stage 14 [] 14 [1, 1, 1, 0, 1, 1, 1, 1, 1, 1, 1] { env := [(0, (.str a1)), (4, (.ptr 64 0)), (7, (.who 1099511627783 false)), (51, (.str a2)), (64, (.bool a3))], heap := [(1099511627783, .arr tV9 a4), (64, .box [(.int .i64 a5.1), (.bool a5.2.1.1), (.str a5.2.1.2.1), (.str a5.2.1.2.2), (.str a5.2.2.1), (.bool a5.2.2.2.1), (.int .i64 a5.2.2.2.2)])], salt := 0 }
abbrev abacistref20_Do_5 (a1 : Bool) (a2 : List (TV9)) (a3 : TV9) : Option (TV9) := (top CT).stage 14 [] 14 [1, 0, 0, 1, 1, 1, 1, 1, 1, 1, 1, 1, 1, 1, 0, 1, 1, 1, 1, 1, 1, 1] { env := [(4, (.ptr 64 0)), (7, (.who 1099511627784 false)), (103, (.bool a1))], heap := [(1099511627784, .arr tV9 a2), (64, .box [(.int .i64 a3.1), (.bool a3.2.1.1), (.str a3.2.1.2.1), (.str a3.2.1.2.2), (.str a3.2.2.1), (.bool a3.2.2.2.1), (.int .i64 a3.2.2.2.2)])], salt := 0 }
abbrev abacistref20_Do_6 (a1 : TB9) (a2 : TB9) (a3 : Bool) (a4 : List (TV9)) (a5 : TV9) : Option (TV9) := (top CT).stage 14 [] 14 [1, 1, 1, 1, 1, 1, 1, 1, 1, 1, 1, 1, 1, 1, 1, 0, 1, 1, 1, 1, 1, 1, 1] { env := [(0, (.str a1)), (4, (.ptr 64 0)), (7, (.who 1099511627785 false)), (51, (.str a2)), (126, (.bool a3))], heap := [(1099511627785, .arr tV9 a4), (64, .box [(.int .i64 a5.1), (.bool a5.2.1.1), (.str a5.2.1.2.1), (.str a5.2.1.2.2), (.str a5.2.2.1), (.bool a5.2.2.2.1), (.int .i64 a5.2.2.2.2)])], salt := 0 }
abbrev abacistref08_Fault (x0 : Int) : Option (TV9) := (top CT).callF 16 (x0)
abbrev abacistref08_Fault_1 (a1 : Int) (a2 : Bool) (a3 : TV9) : Option (TV9) := (top CT).stage 16 [] 16 [1, 0, 1] { env := [(0, (.int .i64 a1)), (2, (.ptr 32 0)), (8, (.bool a2))], heap := [(32, .box [(.int .i64 a3.1), (.bool a3.2.1.1), (.str a3.2.1.2.1), (.str a3.2.1.2.2), (.str a3.2.2.1), (.bool a3.2.2.2.1), (.int .i64 a3.2.2.2.2)])], salt := 0 }
abbrev abacistref08_Fault_2 (a1 : Int) (a2 : TV9) : Option (TV9) := (top CT).stage 16 [] 16 [1, 1] { env := [(0, (.int .i64 a1)), (2, (.ptr 32 0))], heap := [(32, .box [(.int .i64 a2.1), (.bool a2.2.1.1), (.str a2.2.1.2.1), (.str a2.2.1.2.2), (.str a2.2.2.1), (.bool a2.2.2.2.1), (.int .i64 a2.2.2.2.2)])], salt := 0 }
abbrev flog_limits (x0 : TB9) : Option (Int × Int × Bool) := (top CT).callF 17 (x0)
abbrev flog_limits_1 (a1 : TB9) (a2 : TB9) (a3 : Bool) : Option (Int × Int × Bool) := (top CT).stage 17 [] 17 [1, 1, 1, 0, 1, 0, 1] { env := [(0, (.str a1)), (5, (.str a2)), (8, (.bool a3))], heap := [], salt := 0 }
abbrev flog_limits_2 (a1 : TB9) (a2 : TB9) (a3 : Bool) : Option (Int × Int × Bool) := (top CT).stage 17 [] 17 [1, 1, 1, 1, 1, 0, 1, 0, 1] { env := [(0, (.str a1)), (5, (.str a2)), (11, (.bool a3))], heap := [], salt := 0 }
abbrev flog_limits_3 (a1 : TB9) (a2 : TB9) (a3 : Bool) : Option (Int × Int × Bool) := (top CT).stage 17 [] 17 [1, 1, 1, 1, 1, 1, 1, 0, 1, 0, 1] { env := [(0, (.str a1)), (5, (.str a2)), (15, (.bool a3))], heap := [], salt := 0 }
abbrev value_Fault (x0 : Int) : Option (TV9) := (top CT).callF 18 (x0)
abbrev value_Fault_1 (a1 : Int) (a2 : TV9) : Option (TV9) := (top CT).stage 18 [] 18 [1, 1] { env := [(0, (.int .i64 a1)), (2, (.ptr 32 0))], heap := [(32, .box [(.int .i64 a2.1), (.bool a2.2.1.1), (.str a2.2.1.2.1), (.str a2.2.1.2.2), (.str a2.2.2.1), (.bool a2.2.2.2.1), (.int .i64 a2.2.2.2.2)])], salt := 0 }
abbrev flog_odd (x0 : TA9) : Option (Bool) := (top CT).callF 20 (x0)
abbrev flog_odd_1 (a1 : Bool) (a2 : TA9) : Option (Bool) := (top CT).stage 20 [] 20 [1, 0, 1, 1] { env := [(1, (.ptr 16 0)), (33, (.bool a1))], heap := [(16, .box [(.sl tV9 a2.1 false), (.int .i64 a2.2.1), (.bool a2.2.2.1), (.int .i64 a2.2.2.2.1), (.int .i64 a2.2.2.2.2)])], salt := 0 }
abbrev flog_odd_2 (a1 : List (TV9)) (a2 : TA9) : Option (Bool) := (top CT).stage 20 [{ f := 20, path := [0, 1, 1, 1], op := 2, rest := [3], env := [], salt := 0 }] 47 [] { env := [(0, (.sl tV9 a1 false)), (1, (.func 48 [] []))], heap := [(16, .box [(.sl tV9 a2.1 false), (.int .i64 a2.2.1), (.bool a2.2.2.1), (.int .i64 a2.2.2.2.1), (.int .i64 a2.2.2.2.2)])], salt := 37 }
abbrev flog_odd_3 (a1 : List (TV9)) (a2 : TA9) : Option (Bool) := (top CT).stage 20 [{ f := 47, path := [0, 1], op := 2, rest := [3, 4], env := [], salt := 37 }, { f := 20, path := [0, 1, 1, 1], op := 2, rest := [3], env := [], salt := 0 }] 75 [] { env := [(0, (.sl tV9 a1 false)), (1, (.func 48 [] []))], heap := [(16, .box [(.sl tV9 a2.1 false), (.int .i64 a2.2.1), (.bool a2.2.2.1), (.int .i64 a2.2.2.2.1), (.int .i64 a2.2.2.2.2)])], salt := 151560 }
abbrev flog_odd_4 (a1 : List (TV9)) (a2 : Int) (a3 : Int) : Option (Bool) := (top CT).stage 20 [{ f := 47, path := [0, 1], op := 2, rest := [3, 4], env := [], salt := 37 }, { f := 20, path := [0, 1, 1, 1], op := 2, rest := [3], env := [], salt := 0 }] 75 [0, 1, 0, 1] { env := [(0, (.sl tV9 a1 false)), (1, (.func 48 [] [])), (7, (.int .i64 a2)), (8, (.int .i64 a3))], heap := [], salt := 151560 }
abbrev flog_odd_5 (a1 : TV9) (a2 : List (TV9)) (a3 : Int) (a4 : Int) (a5 : Int) : Option (Bool) := (top CT).stage 20 [{ f := 75, path := [0, 1, 0, 0, 1, 1, 0, 0, 1, 0, 1], op := 5, rest := [], env := [(0, (.sl tV9 a2 false)), (1, (.func 48 [] [])), (5, (.int .i64 a3)), (7, (.int .i64 a4)), (8, (.int .i64 a5))], salt := 151560 }, { f := 47, path := [0, 1], op := 2, rest := [3, 4], env := [], salt := 37 }, { f := 20, path := [0, 1, 1, 1], op := 2, rest := [3], env := [], salt := 0 }] 48 [] { env := [(0, (.agg [(.int .i64 a1.1), (.bool a1.2.1.1), (.str a1.2.1.2.1), (.str a1.2.1.2.2), (.str a1.2.2.1), (.bool a1.2.2.2.1), (.int .i64 a1.2.2.2.2)]))], heap := [], salt := 620789777 }
abbrev flog_single (x0 : TA9) : Option (TV9) := (top CT).callF 21 (x0)
abbrev flog_joined (x0 : TB9) (x1 : List (TA9)) : Option (TV9) := (top CT).callF 22 (x0, x1)
abbrev flog_joined_1 (a1 : List (TA9)) (a2 : TV9) (a3 : Int) (a4 : Int) (a5 : TB9) : Option (TV9) := (top CT).stage 22 [{ f := 22, path := [0, 0, 1, 1], op := 1, rest := [], env := [(0, (.str a5)), (4, (.ptr 64 0)), (5, (.ptr 80 0)), (6, (.ptr 96 0))], salt := 0 }] 50 [] { env := [(0, (.sl tA9 a1 false))], heap := [(64, .box [(.int .i64 a2.1), (.bool a2.2.1.1), (.str a2.2.1.2.1), (.str a2.2.1.2.2), (.str a2.2.2.1), (.bool a2.2.2.2.1), (.int .i64 a2.2.2.2.2)]), (80, .box [(.int .i64 a3)]), (96, .box [(.int .i64 a4)])], salt := 11 }
abbrev flog_joined_2 (a1 : TV9) (a2 : Int) (a3 : Int) (a4 : List (TA9)) (a5 : TB9) : Option (TV9) := (top CT).stage 22 [{ f := 22, path := [0, 1, 0, 1, 1], op := 0, rest := [], env := [(1000000000, .undef), (1000000000, .yld), (0, (.str a5)), (4, (.ptr 64 0)), (5, (.ptr 80 0)), (6, (.ptr 96 0))], salt := 0 }] 77 [] { env := [(0, .yld), (1, (.ptr 720912 0))], heap := [(64, .box [(.int .i64 a1.1), (.bool a1.2.1.1), (.str a1.2.1.2.1), (.str a1.2.1.2.2), (.str a1.2.2.1), (.bool a1.2.2.2.1), (.int .i64 a1.2.2.2.2)]), (80, .box [(.int .i64 a2)]), (96, .box [(.int .i64 a3)]), (720912, .box [(.sl tA9 a4 false)])], salt := 4094 }
abbrev flog_joined_3 (a1 : List (TA9)) (a2 : Int) (a3 : Int) (a4 : TV9) (a5 : Int) (a6 : Int) (a7 : TB9) : Option (TV9) := (top CT).stage 22 [{ f := 22, path := [0, 1, 0, 1, 1], op := 0, rest := [], env := [(1000000000, .undef), (1000000000, .yld), (0, (.str a7)), (4, (.ptr 64 0)), (5, (.ptr 80 0)), (6, (.ptr 96 0))], salt := 0 }] 77 [0, 1] { env := [(0, .yld), (7, (.sl tA9 a1 false)), (8, (.int .i64 a2)), (9, (.int .i64 a3))], heap := [(64, .box [(.int .i64 a4.1), (.bool a4.2.1.1), (.str a4.2.1.2.1), (.str a4.2.1.2.2), (.str a4.2.2.1), (.bool a4.2.2.2.1), (.int .i64 a4.2.2.2.2)]), (80, .box [(.int .i64 a5)]), (96, .box [(.int .i64 a6)])], salt := 4094 }
abbrev flog_joined_4 (a1 : List (TA9)) (a2 : Int) (a3 : Int) (a4 : List (TV9)) (a5 : Int) (a6 : Int) (a7 : TA9) (a8 : TV9) (a9 : Int) (a10 : Int) (a11 : TB9) : Option (TV9) := (top CT).stage 22 [{ f := 22, path := [0, 1, 0, 1, 1], op := 0, rest := [], env := [(1000000000, .undef), (1000000000, .yld), (0, (.str a11)), (4, (.ptr 64 0)), (5, (.ptr 80 0)), (6, (.ptr 96 0))], salt := 0 }] 77 [0, 1, 1, 0, 0, 1, 1, 0, 0, 1] { env := [(0, .yld), (4, (.ptr 268304448 0)), (7, (.sl tA9 a1 false)), (8, (.int .i64 a2)), (9, (.int .i64 a3)), (14, (.sl tV9 a4 false)), (15, (.int .i64 a5)), (16, (.int .i64 a6))], heap := [(268304448, .box [(.sl tV9 a7.1 false), (.int .i64 a7.2.1), (.bool a7.2.2.1), (.int .i64 a7.2.2.2.1), (.int .i64 a7.2.2.2.2)]), (64, .box [(.int .i64 a8.1), (.bool a8.2.1.1), (.str a8.2.1.2.1), (.str a8.2.1.2.2), (.str a8.2.2.1), (.bool a8.2.2.2.1), (.int .i64 a8.2.2.2.2)]), (80, .box [(.int .i64 a9)]), (96, .box [(.int .i64 a10)])], salt := 4094 }
abbrev flog_joined_5 (a1 : List (TA9)) (a2 : Int) (a3 : Int) (a4 : List (TV9)) (a5 : Int) (a6 : Int) (a7 : Bool) (a8 : TA9) (a9 : TV9) (a10 : TV9) (a11 : Int) (a12 : Int) (a13 : TB9) : Option (TV9) := (top CT).stage 22 [{ f := 22, path := [0, 1, 0, 1, 1], op := 0, rest := [], env := [(1000000000, .undef), (1000000000, .yld), (0, (.str a13)), (4, (.ptr 64 0)), (5, (.ptr 80 0)), (6, (.ptr 96 0))], salt := 0 }] 77 [1, 0, 1, 0, 0, 1, 1, 0, 0, 1, 1, 0, 0, 1, 1, 0, 0, 1] { env := [(0, .yld), (4, (.ptr 268304448 0)), (6, (.ptr 268304480 0)), (7, (.sl tA9 a1 false)), (8, (.int .i64 a2)), (9, (.int .i64 a3)), (14, (.sl tV9 a4 false)), (15, (.int .i64 a5)), (16, (.int .i64 a6)), (31, (.bool a7))], heap := [(268304448, .box [(.sl tV9 a8.1 false), (.int .i64 a8.2.1), (.bool a8.2.2.1), (.int .i64 a8.2.2.2.1), (.int .i64 a8.2.2.2.2)]), (268304480, .box [(.int .i64 a9.1), (.bool a9.2.1.1), (.str a9.2.1.2.1), (.str a9.2.1.2.2), (.str a9.2.2.1), (.bool a9.2.2.2.1), (.int .i64 a9.2.2.2.2)]), (64, .box [(.int .i64 a10.1), (.bool a10.2.1.1), (.str a10.2.1.2.1), (.str a10.2.1.2.2), (.str a10.2.2.1), (.bool a10.2.2.2.1), (.int .i64 a10.2.2.2.2)]), (80, .box [(.int .i64 a11)]), (96, .box [(.int .i64 a12)])], salt := 4094 }
abbrev flog_joined_6 (a1 : TB9) (a2 : Bool) (a3 : Int) (a4 : TA9) (a5 : TV9) (a6 : TV9) (a7 : Int) (a8 : Int) (a9 : List (TA9)) (a10 : Int) (a11 : Int) (a12 : List (TV9)) (a13 : Int) (a14 : Int) (a15 : TB9) : Option (TV9) := (top CT).stage 22 [{ f := 77, path := [0, 1, 1, 0, 0, 1, 1, 0, 0, 1, 1, 0, 0, 1, 1, 0, 0, 1], op := 5, rest := [6], env := [(0, .yld), (4, (.ptr 268304448 0)), (7, (.sl tA9 a9 false)), (8, (.int .i64 a10)), (9, (.int .i64 a11)), (14, (.sl tV9 a12 false)), (15, (.int .i64 a13)), (16, (.int .i64 a14))], salt := 4094 }, { f := 22, path := [0, 1, 0, 1, 1], op := 0, rest := [], env := [(1000000000, .undef), (1000000000, .yld), (0, (.str a15)), (4, (.ptr 64 0)), (5, (.ptr 80 0)), (6, (.ptr 96 0))], salt := 0 }] 22 [0, 0, 1, 0, 1, 1] { env := [(1000000000, .undef), (1000000000, .yld), (0, (.str a1)), (4, (.ptr 64 0)), (5, (.ptr 80 0)), (6, (.ptr 96 0)), (11, (.bool a2)), (12, (.int .i64 a3))], heap := [(268304448, .box [(.sl tV9 a4.1 false), (.int .i64 a4.2.1), (.bool a4.2.2.1), (.int .i64 a4.2.2.2.1), (.int .i64 a4.2.2.2.2)]), (268304480, .box [(.int .i64 a5.1), (.bool a5.2.1.1), (.str a5.2.1.2.1), (.str a5.2.1.2.2), (.str a5.2.2.1), (.bool a5.2.2.2.1), (.int .i64 a5.2.2.2.2)]), (64, .box [(.int .i64 a6.1), (.bool a6.2.1.1), (.str a6.2.1.2.1), (.str a6.2.1.2.2), (.str a6.2.2.1), (.bool a6.2.2.2.1), (.int .i64 a6.2.2.2.2)]), (80, .box [(.int .i64 a7)]), (96, .box [(.int .i64 a8)])], salt := 4095 }
abbrev flog_joined_7 (a1 : List (TA9)) (a2 : Int) (a3 : Int) (a4 : List (TV9)) (a5 : Int) (a6 : Int) (a7 : TA9) (a8 : TV9) (a9 : Int) (a10 : Int) (a11 : TB9) : Option (TV9) := (top CT).stage 22 [{ f := 22, path := [0, 1, 0, 1, 1], op := 0, rest := [], env := [(1000000000, .undef), (1000000000, .yld), (0, (.str a11)), (4, (.ptr 64 0)), (5, (.ptr 80 0)), (6, (.ptr 96 0))], salt := 0, ls := .done .ret }] 77 [1, 1, 1, 0, 0, 1, 1, 0, 0, 1, 1, 0, 0, 1, 1, 0, 0, 1] { env := [(0, .yld), (4, (.ptr 268304448 0)), (7, (.sl tA9 a1 false)), (8, (.int .i64 a2)), (9, (.int .i64 a3)), (14, (.sl tV9 a4 false)), (15, (.int .i64 a5)), (16, (.int .i64 a6)), (38, (.bool true))], heap := [(268304448, .box [(.sl tV9 a7.1 false), (.int .i64 a7.2.1), (.bool a7.2.2.1), (.int .i64 a7.2.2.2.1), (.int .i64 a7.2.2.2.2)]), (64, .box [(.int .i64 a8.1), (.bool a8.2.1.1), (.str a8.2.1.2.1), (.str a8.2.1.2.2), (.str a8.2.2.1), (.bool a8.2.2.2.1), (.int .i64 a8.2.2.2.2)]), (80, .box [(.int .i64 a9)]), (96, .box [(.int .i64 a10)])], salt := 4094 }
abbrev flog_joined_8 (a1 : List (TA9)) (a2 : Int) (a3 : Int) (a4 : List (TV9)) (a5 : Int) (a6 : Int) (a7 : Bool) (a8 : TA9) (a9 : TV9) (a10 : Int) (a11 : Int) (a12 : TB9) : Option (TV9) := (top CT).stage 22 [{ f := 22, path := [0, 1, 0, 1, 1], op := 0, rest := [], env := [(1000000000, .undef), (1000000000, .yld), (0, (.str a12)), (4, (.ptr 64 0)), (5, (.ptr 80 0)), (6, (.ptr 96 0))], salt := 0 }] 77 [1, 1, 1, 0, 0, 1, 1, 0, 0, 1, 1, 0, 0, 1, 1, 0, 0, 1] { env := [(0, .yld), (4, (.ptr 268304448 0)), (7, (.sl tA9 a1 false)), (8, (.int .i64 a2)), (9, (.int .i64 a3)), (14, (.sl tV9 a4 false)), (15, (.int .i64 a5)), (16, (.int .i64 a6)), (38, (.bool a7))], heap := [(268304448, .box [(.sl tV9 a8.1 false), (.int .i64 a8.2.1), (.bool a8.2.2.1), (.int .i64 a8.2.2.2.1), (.int .i64 a8.2.2.2.2)]), (64, .box [(.int .i64 a9.1), (.bool a9.2.1.1), (.str a9.2.1.2.1), (.str a9.2.1.2.2), (.str a9.2.2.1), (.bool a9.2.2.2.1), (.int .i64 a9.2.2.2.2)]), (80, .box [(.int .i64 a10)]), (96, .box [(.int .i64 a11)])], salt := 4094 }
abbrev value_Truth (x0 : Bool) : Option (TV9) := (top CT).callF 23 (x0)
abbrev flog_choice (x0 : List (TV9)) : Option (TV9) := (top CT).callF 24 (x0)
abbrev flog_asked (x0 : TB9) (x1 : TV9) : Option (Bool) := (top CT).callF 25 (x0, x1)
abbrev flog_asked_1 (a1 : TB9) (a2 : Bool) (a3 : TV9) : Option (Bool) := (top CT).stage 25 [] 25 [1, 1] { env := [(0, (.str a1)), (3, (.ptr 48 0)), (5, (.bool a2))], heap := [(48, .box [(.int .i64 a3.1), (.bool a3.2.1.1), (.str a3.2.1.2.1), (.str a3.2.1.2.2), (.str a3.2.2.1), (.bool a3.2.2.2.1), (.int .i64 a3.2.2.2.2)])], salt := 0 }
abbrev flog_nth (x0 : List (TV9)) : Option (TV9) := (top CT).callF 26 (x0)
abbrev flog_nth_1 (a1 : List (TV9)) (a2 : Int) (a3 : Bool) (a4 : TV9) : Option (TV9) := (top CT).stage 26 [] 26 [1, 0, 1, 1, 1, 1] { env := [(0, (.sl tV9 a1 false)), (2, (.ptr 32 0)), (5, (.int .i64 a2)), (35, (.bool a3))], heap := [(32, .box [(.int .i64 a4.1), (.bool a4.2.1.1), (.str a4.2.1.2.1), (.str a4.2.1.2.2), (.str a4.2.2.1), (.bool a4.2.2.2.1), (.int .i64 a4.2.2.2.2)])], salt := 0 }
abbrev flog_switched (x0 : TV9) (x1 : List (TV9)) : Option (TV9) := (top CT).callF 27 (x0, x1)
abbrev flog_switched_1 (a1 : List (TV9)) (a2 : TV9) (a3 : TV9) : Option (TV9) := (top CT).stage 27 [] 27 [0, 0, 1, 1] { env := [(1, (.sl tV9 a1 false)), (2, (.ptr 32 0)), (4, (.ptr 64 0))], heap := [(32, .box [(.int .i64 a2.1), (.bool a2.2.1.1), (.str a2.2.1.2.1), (.str a2.2.1.2.2), (.str a2.2.2.1), (.bool a2.2.2.2.1), (.int .i64 a2.2.2.2.2)]), (64, .box [(.int .i64 a3.1), (.bool a3.2.1.1), (.str a3.2.1.2.1), (.str a3.2.1.2.2), (.str a3.2.2.1), (.bool a3.2.2.2.1), (.int .i64 a3.2.2.2.2)])], salt := 0 }
abbrev flog_one (x0 : TB9) (x1 : TV9) : Option (TV9) := (top CT).callF 28 (x0, x1)
abbrev flog_one_1 (a1 : Bool) (a2 : TV9) (a3 : TV9) : Option (TV9) := (top CT).stage 28 [] 28 [1, 0, 0, 1, 1, 1, 1, 1, 0, 1, 0, 1] { env := [(3, (.ptr 48 0)), (4, (.ptr 64 0)), (35, (.bool a1))], heap := [(48, .box [(.int .i64 a2.1), (.bool a2.2.1.1), (.str a2.2.1.2.1), (.str a2.2.1.2.2), (.str a2.2.2.1), (.bool a2.2.2.2.1), (.int .i64 a2.2.2.2.2)]), (64, .box [(.int .i64 a3.1), (.bool a3.2.1.1), (.str a3.2.1.2.1), (.str a3.2.1.2.2), (.str a3.2.2.1), (.bool a3.2.2.2.1), (.int .i64 a3.2.2.2.2)])], salt := 0 }
abbrev abacistref05_Right (x0 : Bool × TB9 × TB9) : Option (Bool) := (top CT).callF 29 (x0)
abbrev abacistref05_Right_1 (a1 : Bool) (a2 : Bool × TB9 × TB9) : Option (Bool) := (top CT).stage 29 [] 29 [1, 0, 1] { env := [(1, (.ptr 16 0)), (33, (.bool a1))], heap := [(16, .box [(.bool a2.1), (.str a2.2.1), (.str a2.2.2)])], salt := 0 }
abbrev abacistref08_Plain (x0 : TB9) : Option (Bool) := (top CT).callF 30 (x0)
abbrev abacistref08_Plain_1 (a1 : TB9) (a2 : Int) : Option (Bool) := (top CT).stage 30 [] 30 [0, 1, 0, 1, 1] { env := [(0, (.str a1)), (3, (.int .i64 a2))], heap := [], salt := 0 }
abbrev abacistref08_Plain_2 (a1 : TB9) (a2 : Int) (a3 : Bool) : Option (Bool) := (top CT).stage 30 [] 30 [1, 0, 0, 1, 0, 0, 1, 0, 1, 1] { env := [(0, (.str a1)), (3, (.int .i64 a2)), (22, (.bool a3))], heap := [], salt := 0 }
abbrev abacistref18_Has (x0 : List (TB9)) (x1 : TB9) : Option (Bool) := (top CT).callF 31 (x0, x1)
abbrev abacistref18_Has_1 (a1 : List (TB9)) (a2 : TB9) (a3 : Int) : Option (Bool) := (top CT).stage 31 [] 31 [0, 1, 0, 1] { env := [(0, (.sl .str a1 false)), (1, (.str a2)), (5, (.int .i64 a3))], heap := [], salt := 0 }
abbrev abacistref20_many (x0 : TB9) : Option (Int × Int) := (top CT).callF 32 (x0)
abbrev abacistref19_Mays (x0 : List (TA9)) : Option (Bool) := (top CT).callF 33 (x0)
abbrev abacistref19_Mays_1 (a1 : List (TA9)) (a2 : Int) : Option (Bool) := (top CT).stage 33 [] 33 [0, 1, 0, 1] { env := [(0, (.sl tA9 a1 false)), (3, (.int .i64 a2))], heap := [], salt := 0 }
abbrev abacistref19_One (x0 : TA9) : Option (TV9) := (top CT).callF 34 (x0)
abbrev abacistref20_joined (x0 : TB9) (x1 : List (TA9)) : Option (TV9) := (top CT).callF 35 (x0, x1)
abbrev abacistref20_joined_1 (a1 : TB9) (a2 : List Bool) (a3 : Int) (a4 : Int) (a5 : TV9) : Option (TV9) := (top CT).stage 35 [] 35 [0, 1, 0, 1, 1, 1, 1, 1] { env := [(0, (.str a1)), (4, (.ptr 64 0)), (5, (.sl .bool a2 false)), (7, (.int .i64 a3)), (8, (.int .i64 a4))], heap := [(64, .box [(.int .i64 a5.1), (.bool a5.2.1.1), (.str a5.2.1.2.1), (.str a5.2.1.2.2), (.str a5.2.2.1), (.bool a5.2.2.2.1), (.int .i64 a5.2.2.2.2)])], salt := 0 }
abbrev abacistref20_joined_2 (a1 : TB9) (a2 : List Bool) (a3 : Int) (a4 : Int) (a5 : TV9) : Option (TV9) := (top CT).stage 35 [] 35 [1, 1, 0, 0, 1, 0, 1, 1, 1, 1, 1] { env := [(0, (.str a1)), (4, (.ptr 64 0)), (5, (.sl .bool a2 false)), (7, (.int .i64 a3)), (8, (.int .i64 a4))], heap := [(64, .box [(.int .i64 a5.1), (.bool a5.2.1.1), (.str a5.2.1.2.1), (.str a5.2.1.2.2), (.str a5.2.2.1), (.bool a5.2.2.2.1), (.int .i64 a5.2.2.2.2)])], salt := 0 }
abbrev abacistref20_chosen (x0 : List (TV9)) : Option (TV9) := (top CT).callF 36 (x0)
abbrev abacistref09_Truth (x0 : TV9) : Option (Bool × Int) := (top CT).callF 37 (x0)
abbrev abacistref09_Truth_1 (a1 : Bool) (a2 : TV9) : Option (Bool × Int) := (top CT).stage 37 [] 37 [1, 0, 0, 1, 1, 1, 0, 1, 1, 1] { env := [(1, (.ptr 16 0)), (28, (.bool a1))], heap := [(16, .box [(.int .i64 a2.1), (.bool a2.2.1.1), (.str a2.2.1.2.1), (.str a2.2.1.2.2), (.str a2.2.2.1), (.bool a2.2.2.2.1), (.int .i64 a2.2.2.2.2)])], salt := 0 }
abbrev abacistref20_turned (x0 : TB9) (x1 : TV9) : Option (TV9) := (top CT).callF 38 (x0, x1)
abbrev abacistref20_turned_1 (a1 : Bool) (a2 : TV9) (a3 : TV9) : Option (TV9) := (top CT).stage 38 [] 38 [1, 0, 0, 1, 0, 1, 1] { env := [(3, (.ptr 48 0)), (4, (.ptr 64 0)), (24, (.bool a1))], heap := [(48, .box [(.int .i64 a2.1), (.bool a2.2.1.1), (.str a2.2.1.2.1), (.str a2.2.1.2.2), (.str a2.2.2.1), (.bool a2.2.2.2.1), (.int .i64 a2.2.2.2.2)]), (64, .box [(.int .i64 a3.1), (.bool a3.2.1.1), (.str a3.2.1.2.1), (.str a3.2.1.2.2), (.str a3.2.2.1), (.bool a3.2.2.2.1), (.int .i64 a3.2.2.2.2)])], salt := 0 }
abbrev abacistref20_turned_2 (a1 : Bool) (a2 : TV9) (a3 : TV9) : Option (TV9) := (top CT).stage 38 [] 38 [1, 0, 0, 1, 1, 1, 0, 1, 1] { env := [(3, (.ptr 48 0)), (4, (.ptr 64 0)), (46, (.bool a1))], heap := [(48, .box [(.int .i64 a2.1), (.bool a2.2.1.1), (.str a2.2.1.2.1), (.str a2.2.1.2.2), (.str a2.2.2.1), (.bool a2.2.2.2.1), (.int .i64 a2.2.2.2.2)]), (64, .box [(.int .i64 a3.1), (.bool a3.2.1.1), (.str a3.2.1.2.1), (.str a3.2.1.2.2), (.str a3.2.2.1), (.bool a3.2.2.2.1), (.int .i64 a3.2.2.2.2)])], salt := 0 }
abbrev abacistref20_turned_3 (a1 : Bool) (a2 : TV9) : Option (TV9) := (top CT).stage 38 [] 38 [1, 0, 1, 0, 1, 0, 1, 1] { env := [(4, (.ptr 64 0)), (32, (.bool a1))], heap := [(64, .box [(.int .i64 a2.1), (.bool a2.2.1.1), (.str a2.2.1.2.1), (.str a2.2.1.2.2), (.str a2.2.2.1), (.bool a2.2.2.2.1), (.int .i64 a2.2.2.2.2)])], salt := 0 }
abbrev abacistref20_nth (x0 : List (TV9)) : Option (TV9) := (top CT).callF 39 (x0)
abbrev abacistref20_nth_1 (a1 : List (TV9)) (a2 : Int) (a3 : Bool) (a4 : TV9) : Option (TV9) := (top CT).stage 39 [] 39 [1, 0, 1, 1, 1, 1] { env := [(0, (.sl tV9 a1 false)), (2, (.ptr 32 0)), (5, (.int .i64 a2)), (36, (.bool a3))], heap := [(32, .box [(.int .i64 a4.1), (.bool a4.2.1.1), (.str a4.2.1.2.1), (.str a4.2.1.2.2), (.str a4.2.2.1), (.bool a4.2.2.2.1), (.int .i64 a4.2.2.2.2)])], salt := 0 }
abbrev abacistref20_switched (x0 : List (TV9)) : Option (TV9) := (top CT).callF 40 (x0)
abbrev abacistref20_switched_1 (a1 : List (TV9)) (a2 : Int) (a3 : TV9) : Option (TV9) := (top CT).stage 40 [] 40 [0, 1, 0, 1, 1] { env := [(0, (.sl tV9 a1 false)), (2, (.ptr 32 0)), (3, (.int .i64 a2))], heap := [(32, .box [(.int .i64 a3.1), (.bool a3.2.1.1), (.str a3.2.1.2.1), (.str a3.2.1.2.2), (.str a3.2.2.1), (.bool a3.2.2.2.1), (.int .i64 a3.2.2.2.2)])], salt := 0 }
abbrev abacistref20_asked (x0 : TB9) (x1 : TV9) : Option (TV9) := (top CT).callF 41 (x0, x1)
abbrev abacistref08_Num (x0 : Bool × TB9 × TB9) : Option (TV9) := (top CT).callF 42 (x0)
abbrev abacistref05_Of (x0 : Int) : Option (Bool × TB9 × TB9) := (top CT).callF 43 (x0)
abbrev slices_Contains_string_string (x0 : List (TB9)) (x1 : TB9) : Option (Bool) := (top CT).callF 44 (x0, x1)
abbrev value_Name (x0 : Int) : Option (TB9) := (top CT).callF 45 (x0)
abbrev value_Name_1 (a1 : Int) : Option (TB9) := (top CT).stage 45 [{ f := 45, path := [0, 1], op := 0, rest := [1, 2], env := [(0, (.int .i64 a1))], salt := 0 }] 74 [] { env := [], heap := [], salt := 5 }
abbrev value_Name_2 (a1 : Int) (a2 : Bool) (a3 : TB9) (a4 : TB9) (a5 : TB9) (a6 : TB9) (a7 : TB9) (a8 : TB9) (a9 : TB9) (a10 : TB9) : Option (TB9) := (top CT).stage 45 [] 45 [1, 0, 1, 1] { env := [(0, (.int .i64 a1)), (3, (.ptr 48 0)), (10, (.bool a2))], heap := [(48, .box [(.str a3), (.str a4), (.str a5), (.str a6), (.str a7), (.str a8), (.str a9), (.str a10)])], salt := 0 }
abbrev value_Right (x0 : TV9) : Option (Bool) := (top CT).callF 49 (x0)
abbrev coerce_Truth (x0 : TV9) : Option (Bool × Int) := (top CT).callF 51 (x0)
abbrev coerce_Truth_1 (a1 : Bool) (a2 : TV9) : Option (Bool × Int) := (top CT).stage 51 [] 51 [1, 1, 0, 0, 1, 1, 1, 0, 1, 0, 1, 1] { env := [(1, (.ptr 16 0)), (34, (.bool a1))], heap := [(16, .box [(.int .i64 a2.1), (.bool a2.2.1.1), (.str a2.2.1.2.1), (.str a2.2.1.2.2), (.str a2.2.2.1), (.bool a2.2.2.2.1), (.int .i64 a2.2.2.2.2)])], salt := 0 }
abbrev coerce_Num (x0 : TV9) : Option ((Bool × TB9 × TB9) × Int) := (top CT).callF 52 (x0)
abbrev round_Small (x0 : Bool × TB9 × TB9) : Option (Int × Bool) := (top CT).callF 53 (x0)
abbrev round_Trunc (x0 : Bool × TB9 × TB9) : Option (Bool × TB9 × TB9) := (top CT).callF 54 (x0)
abbrev coerce_Cmp (x0 : TV9) (x1 : TV9) : Option (Int × Int) := (top CT).callF 55 (x0, x1)
abbrev coerce_Cmp_1 (a1 : Int) (a2 : Bool) (a3 : TB9) (a4 : TB9) (a5 : TB9) (a6 : Bool) (a7 : Int) (a8 : Int) (a9 : Bool) (a10 : TB9) (a11 : TB9) (a12 : TB9) (a13 : Bool) (a14 : Int) (a15 : TV9) (a16 : TV9) : Option (Int × Int) := (top CT).stage 55 [{ f := 55, path := [0, 0, 1], op := 4, rest := [5], env := [(2, (.ptr 32 0)), (3, (.ptr 48 0))], salt := 0 }] 91 [] { env := [(0, (.func 78 [(.agg [(.int .i64 a1), (.bool a2), (.str a3), (.str a4), (.str a5), (.bool a6), (.int .i64 a7)])] [])), (1, (.func 78 [(.agg [(.int .i64 a8), (.bool a9), (.str a10), (.str a11), (.str a12), (.bool a13), (.int .i64 a14)])] []))], heap := [(32, .box [(.int .i64 a15.1), (.bool a15.2.1.1), (.str a15.2.1.2.1), (.str a15.2.1.2.2), (.str a15.2.2.1), (.bool a15.2.2.2.1), (.int .i64 a15.2.2.2.2)]), (48, .box [(.int .i64 a16.1), (.bool a16.2.1.1), (.str a16.2.1.2.1), (.str a16.2.1.2.2), (.str a16.2.2.1), (.bool a16.2.2.2.1), (.int .i64 a16.2.2.2.2)])], salt := 12 }
abbrev coerce_Cmp_2 (a1 : Int) (a2 : TV9) (a3 : TV9) : Option (Int × Int) := (top CT).stage 55 [] 55 [1, 0, 1] { env := [(2, (.ptr 32 0)), (3, (.ptr 48 0)), (6, (.int .i64 a1))], heap := [(32, .box [(.int .i64 a2.1), (.bool a2.2.1.1), (.str a2.2.1.2.1), (.str a2.2.1.2.2), (.str a2.2.2.1), (.bool a2.2.2.2.1), (.int .i64 a2.2.2.2.2)]), (48, .box [(.int .i64 a3.1), (.bool a3.2.1.1), (.str a3.2.1.2.1), (.str a3.2.1.2.2), (.str a3.2.2.1), (.bool a3.2.2.2.1), (.int .i64 a3.2.2.2.2)])], salt := 0 }
abbrev flog_plain (x0 : TV9) : Option (TV9) := (top CT).callF 56 (x0)
abbrev flog_plain_1 (a1 : Bool) (a2 : TV9) (a3 : TV9) : Option (TV9) := (top CT).stage 56 [] 56 [1, 0, 0, 1] { env := [(1, (.ptr 16 0)), (2, (.ptr 32 0)), (3, (.bool a1))], heap := [(16, .box [(.int .i64 a2.1), (.bool a2.2.1.1), (.str a2.2.1.2.1), (.str a2.2.1.2.2), (.str a2.2.2.1), (.bool a2.2.2.2.1), (.int .i64 a2.2.2.2.2)]), (32, .box [(.int .i64 a3.1), (.bool a3.2.1.1), (.str a3.2.1.2.1), (.str a3.2.1.2.2), (.str a3.2.2.1), (.bool a3.2.2.2.1), (.int .i64 a3.2.2.2.2)])], salt := 0 }
abbrev value_Text (x0 : TB9) : Option (TV9) := (top CT).callF 57 (x0)
abbrev flog_kind (x0 : TV9) : Option (TV9) := (top CT).callF 58 (x0)
abbrev flog_kind_1 (a1 : Int) (a2 : TV9) : Option (TV9) := (top CT).stage 58 [] 58 [1, 1, 1] { env := [(2, (.ptr 32 0)), (3, (.int .i64 a1))], heap := [(32, .box [(.int .i64 a2.1), (.bool a2.2.1.1), (.str a2.2.1.2.1), (.str a2.2.1.2.2), (.str a2.2.2.1), (.bool a2.2.2.2.1), (.int .i64 a2.2.2.2.2)])], salt := 0 }
abbrev abacistref01_Trim (x0 : TB9) : Option (TB9) := (top CT).callF 59 (x0)
abbrev abacistref02_Gcd (x0 : TB9) (x1 : TB9) : Option (TB9) := (top CT).callF 60 (x0, x1)
abbrev abacistref19_May (x0 : TA9) : Option (Bool) := (top CT).callF 61 (x0)
abbrev abacistref19_May_1 (a1 : Int) (a2 : Bool) (a3 : TA9) : Option (Bool) := (top CT).stage 61 [] 61 [1, 0, 1, 1] { env := [(1, (.ptr 16 0)), (3, (.int .i64 a1)), (39, (.bool a2))], heap := [(16, .box [(.sl tV9 a3.1 false), (.int .i64 a3.2.1), (.bool a3.2.2.1), (.int .i64 a3.2.2.2.1), (.int .i64 a3.2.2.2.2)])], salt := 0 }
abbrev abacistref19_May_2 (a1 : Int) (a2 : Int) (a3 : TA9) : Option (Bool) := (top CT).stage 61 [] 61 [0, 1, 0, 1, 1, 1] { env := [(1, (.ptr 16 0)), (3, (.int .i64 a1)), (4, (.int .i64 a2))], heap := [(16, .box [(.sl tV9 a3.1 false), (.int .i64 a3.2.1), (.bool a3.2.2.1), (.int .i64 a3.2.2.2.1), (.int .i64 a3.2.2.2.2)])], salt := 0 }
abbrev abacistref20_truths (x0 : List (TA9)) : Option (List Bool × Int) := (top CT).callF 62 (x0)
abbrev abacistref20_truths_1 (a1 : List (TA9)) (a2 : Int) (a3 : List Bool) : Option (List Bool × Int) := (top CT).stage 62 [] 62 [0, 1, 0, 1, 1] { env := [(0, (.sl tA9 a1 false)), (4, (.who 1099511627786 false)), (5, (.int .i64 a2))], heap := [(1099511627786, .arr .bool a3)], salt := 0 }
abbrev abacistref20_truths_2 (a1 : List (TA9)) (a2 : Int) (a3 : Int) (a4 : List Bool) : Option (List Bool × Int) := (top CT).stage 62 [] 62 [0, 1, 1, 0, 0, 1, 0, 0, 1, 0, 1, 1] { env := [(0, (.sl tA9 a1 false)), (4, (.who 1099511627787 false)), (5, (.int .i64 a2)), (8, (.int .i64 a3))], heap := [(1099511627787, .arr .bool a4)], salt := 0 }
abbrev abacistref20_truths_3 (a1 : List (TA9)) (a2 : Int) (a3 : Int) (a4 : Bool) (a5 : List Bool) (a6 : TV9) : Option (List Bool × Int) := (top CT).stage 62 [] 62 [1, 1, 1, 0, 0, 1, 0, 0, 1, 1, 0, 0, 1, 0, 0, 1, 0, 1, 1] { env := [(0, (.sl tA9 a1 false)), (4, (.who 1099511627788 false)), (5, (.int .i64 a2)), (8, (.int .i64 a3)), (9, (.ptr 144 0)), (72, (.bool a4))], heap := [(1099511627788, .arr .bool a5), (144, .box [(.int .i64 a6.1), (.bool a6.2.1.1), (.str a6.2.1.2.1), (.str a6.2.1.2.2), (.str a6.2.2.1), (.bool a6.2.2.2.1), (.int .i64 a6.2.2.2.2)])], salt := 0 }
abbrev abacistref20_truths_4 (a1 : List (TA9)) (a2 : Int) (a3 : Int) (a4 : List Bool) : Option (List Bool × Int) := (top CT).stage 62 [] 62 [1, 1, 0, 0, 1, 1, 0, 0, 1, 0, 0, 1, 0, 1, 1] { env := [(0, (.sl tA9 a1 false)), (4, (.who 1099511627789 false)), (5, (.int .i64 a2)), (8, (.int .i64 a3))], heap := [(1099511627789, .arr .bool a4)], salt := 0 }
abbrev abacistref09_fault (x0 : TV9) : Option (Int) := (top CT).callF 63 (x0)
abbrev abacistref05_Sign (x0 : Bool × TB9 × TB9) : Option (Int) := (top CT).callF 64 (x0)
abbrev abacistref08_Text (x0 : TB9) : Option (TV9) := (top CT).callF 65 (x0)
abbrev abacistref09_Num (x0 : TV9) : Option ((Bool × TB9 × TB9) × Int) := (top CT).callF 66 (x0)
abbrev abacistref06_Small (x0 : Bool × TB9 × TB9) : Option (Int × Bool) := (top CT).callF 67 (x0)
abbrev abacistref06_Trunc (x0 : Bool × TB9 × TB9) : Option (Bool × TB9 × TB9) := (top CT).callF 68 (x0)
abbrev abacistref06_Trunc_1 (a1 : Bool × TB9 × TB9) (a2 : Bool × TB9 × TB9) : Option (Bool × TB9 × TB9) := (top CT).stage 68 [] 68 [1, 1, 1] { env := [(2, (.ptr 32 0)), (3, (.ptr 48 0))], heap := [(32, .box [(.bool a1.1), (.str a1.2.1), (.str a1.2.2)]), (48, .box [(.bool a2.1), (.str a2.2.1), (.str a2.2.2)])], salt := 0 }
abbrev abacistref09_Cmp (x0 : TV9) (x1 : TV9) : Option (Int × Int) := (top CT).callF 69 (x0, x1)
abbrev abacistref05_Well (x0 : Bool × TB9 × TB9) : Option (Bool × TB9 × TB9) := (top CT).callF 70 (x0)
abbrev abacistref05_Make (x0 : Bool × TB9) (x1 : Bool × TB9) : Option ((Bool × TB9 × TB9) × Int) := (top CT).callF 71 (x0, x1)
abbrev abacistref05_Make_1 (a1 : TB9) (a2 : TB9) (a3 : Bool) (a4 : Bool × TB9 × TB9) (a5 : Bool × TB9) (a6 : Bool × TB9) : Option ((Bool × TB9 × TB9) × Int) := (top CT).stage 71 [] 71 [1, 0, 1, 1, 1, 1, 1, 1, 1] { env := [(4, (.ptr 64 0)), (6, (.ptr 96 0)), (7, (.ptr 112 0)), (9, (.str a1)), (10, (.str a2)), (45, (.bool a3))], heap := [(64, .box [(.bool a4.1), (.str a4.2.1), (.str a4.2.2)]), (96, .box [(.bool a5.1), (.str a5.2)]), (112, .box [(.bool a6.1), (.str a6.2)])], salt := 0 }
abbrev abacistref04_Of (x0 : Int) : Option (Bool × TB9) := (top CT).callF 72 (x0)
abbrev slices_Index_string_string (x0 : List (TB9)) (x1 : TB9) : Option (Int) := (top CT).callF 73 (x0, x1)
abbrev slices_Index_string_string_1 (a1 : List (TB9)) (a2 : TB9) (a3 : Int) (a4 : Int) : Option (Int) := (top CT).stage 73 [] 73 [0, 1, 0, 1] { env := [(0, (.sl .str a1 false)), (1, (.str a2)), (7, (.int .i64 a3)), (8, (.int .i64 a4))], heap := [], salt := 0 }
abbrev value_Num (x0 : Bool × TB9 × TB9) : Option (TV9) := (top CT).callF 76 (x0)
abbrev value_Num_1 (a1 : Bool × TB9 × TB9) (a2 : TV9) : Option (TV9) := (top CT).stage 76 [] 76 [1, 1] { env := [(1, (.ptr 16 0)), (2, (.ptr 32 0))], heap := [(16, .box [(.bool a1.1), (.str a1.2.1), (.str a1.2.2)]), (32, .box [(.int .i64 a2.1), (.bool a2.2.1.1), (.str a2.2.1.2.1), (.str a2.2.1.2.2), (.str a2.2.2.1), (.bool a2.2.2.2.1), (.int .i64 a2.2.2.2.2)])], salt := 0 }
abbrev coerce_cell_fault (x0 : TV9) : Option (Int) := (top CT).callF 78 (x0)
abbrev rat_Sign (x0 : Bool × TB9 × TB9) : Option (Int) := (top CT).callF 79 (x0)
abbrev value_Literal (x0 : TB9) : Option ((TV9) × Int) := (top CT).callF 80 (x0)
abbrev value_Literal_1 (a1 : TB9) (a2 : Bool) (a3 : TV9) : Option ((TV9) × Int) := (top CT).stage 80 [] 80 [1, 1, 1, 0, 1, 0, 1, 1] { env := [(0, (.str a1)), (2, (.ptr 32 0)), (16, (.bool a2))], heap := [(32, .box [(.int .i64 a3.1), (.bool a3.2.1.1), (.str a3.2.1.2.1), (.str a3.2.1.2.2), (.str a3.2.2.1), (.bool a3.2.2.2.1), (.int .i64 a3.2.2.2.2)])], salt := 0 }
abbrev numtext_Parse (x0 : TB9) : Option ((Bool × TB9 × TB9) × Int) := (top CT).callF 81 (x0)
abbrev numtext_Parse_1 (a1 : Bool) (a2 : Int) (a3 : Bool × TB9 × TB9) (a4 : Bool × TB9 × TB9) : Option ((Bool × TB9 × TB9) × Int) := (top CT).stage 81 [] 81 [1, 1, 1, 1, 1, 1] { env := [(2, (.ptr 32 0)), (4, (.bool a1)), (8, (.ptr 128 0)), (9, (.int .i64 a2))], heap := [(32, .box [(.bool a3.1), (.str a3.2.1), (.str a3.2.2)]), (128, .box [(.bool a4.1), (.str a4.2.1), (.str a4.2.2)])], salt := 0 }
abbrev numtext_Parse_2 (a1 : Int) (a2 : Bool) (a3 : Bool × TB9 × TB9) (a4 : Bool × TB9 × TB9) : Option ((Bool × TB9 × TB9) × Int) := (top CT).stage 81 [] 81 [1, 0, 1, 1, 1, 1, 1, 1] { env := [(2, (.ptr 32 0)), (8, (.ptr 128 0)), (9, (.int .i64 a1)), (37, (.bool a2))], heap := [(32, .box [(.bool a3.1), (.str a3.2.1), (.str a3.2.2)]), (128, .box [(.bool a4.1), (.str a4.2.1), (.str a4.2.2)])], salt := 0 }
abbrev numtext_Parse_3 (a1 : Int) (a2 : Bool × TB9 × TB9) (a3 : Bool × TB9 × TB9) : Option ((Bool × TB9 × TB9) × Int) := (top CT).stage 81 [] 81 [1, 1, 1, 1, 1, 1, 1] { env := [(2, (.ptr 32 0)), (8, (.ptr 128 0)), (9, (.int .i64 a1))], heap := [(32, .box [(.bool a2.1), (.str a2.2.1), (.str a2.2.2)]), (128, .box [(.bool a3.1), (.str a3.2.1), (.str a3.2.2)])], salt := 0 }
abbrev rat_Of (x0 : Int) : Option (Bool × TB9 × TB9) := (top CT).callF 82 (x0)
abbrev coerce_bit (x0 : Bool) : Option (Int) := (top CT).callF 83 (x0)
abbrev round_Whole (x0 : Bool × TB9 × TB9) : Option (Bool) := (top CT).callF 84 (x0)
abbrev whole_Small (x0 : Bool × TB9) : Option (Int × Bool) := (top CT).callF 85 (x0)
abbrev whole_Small_1 (a1 : Int) (a2 : Bool) (a3 : Bool × TB9) : Option (Int × Bool) := (top CT).stage 85 [] 85 [1, 1, 1, 1] { env := [(1, (.ptr 16 0)), (4, (.int .u64 a1)), (5, (.bool a2))], heap := [(16, .box [(.bool a3.1), (.str a3.2)])], salt := 0 }
abbrev whole_Small_2 (a1 : Int) (a2 : Bool) : Option (Int × Bool) := (top CT).stage 85 [] 85 [1, 0, 1, 1, 1, 1] { env := [(4, (.int .u64 a1)), (26, (.bool a2))], heap := [], salt := 0 }
abbrev round_top (x0 : Bool × TB9 × TB9) : Option (Bool × TB9) := (top CT).callF 86 (x0)
abbrev round_well (x0 : Bool × TB9 × TB9) : Option (Bool × TB9 × TB9) := (top CT).callF 87 (x0)
abbrev divide_DivMod (x0 : TB9) (x1 : TB9) : Option (TB9 × TB9 × Int) := (top CT).callF 88 (x0, x1)
abbrev round_made (x0 : Bool × TB9) : Option ((Bool × TB9 × TB9) × Int) := (top CT).callF 89 (x0)
abbrev whole_Make (x0 : Bool) (x1 : TB9) : Option (Bool × TB9) := (top CT).callF 90 (x0, x1)
abbrev coerce_like (x0 : TV9) (x1 : Int) : Option (TV9) := (top CT).callF 92 (x0, x1)
abbrev cmp_Compare_int (x0 : Int) (x1 : Int) : Option (Int) := (top CT).callF 93 (x0, x1)
abbrev rat_Cmp (x0 : Bool × TB9 × TB9) (x1 : Bool × TB9 × TB9) : Option (Int) := (top CT).callF 94 (x0, x1)
abbrev cmp_Or_int (x0 : List Int) : Option (Int) := (top CT).callF 95 (x0)
abbrev cmp_Or_int_1 (a1 : Int) (a2 : List Int) (a3 : Int) (a4 : Int) : Option (Int) := (top CT).stage 95 [] 95 [0, 1, 0, 1, 1] { env := [(3, (.int .i64 a1)), (6, (.sl (.int .i64) a2 false)), (7, (.int .i64 a3)), (8, (.int .i64 a4))], heap := [], salt := 0 }
abbrev cmp_Compare_string (x0 : TB9) (x1 : TB9) : Option (Int) := (top CT).callF 96 (x0, x1)
abbrev cmp_Compare_int64 (x0 : Int) (x1 : Int) : Option (Int) := (top CT).callF 97 (x0, x1)
abbrev value_plain (x0 : TB9) : Option (Bool) := (top CT).callF 98 (x0)
abbrev value_plain_1 (a1 : TB9) (a2 : List Int) (a3 : Int) (a4 : Int) : Option (Bool) := (top CT).stage 98 [] 98 [0, 1, 0, 1] { env := [(0, (.str a1)), (6, (.sl (.int .u8) a2 false)), (7, (.int .i64 a3)), (8, (.int .i64 a4))], heap := [], salt := 0 }
abbrev value_plain_2 (a1 : TB9) (a2 : List Int) (a3 : Int) (a4 : Int) (a5 : Bool) : Option (Bool) := (top CT).stage 98 [] 98 [1, 1, 0, 0, 1, 1, 0, 0, 1, 0, 1] { env := [(0, (.str a1)), (6, (.sl (.int .u8) a2 false)), (7, (.int .i64 a3)), (8, (.int .i64 a4)), (17, (.bool a5))], heap := [], salt := 0 }
abbrev abacistref04_Cmp (x0 : Bool × TB9) (x1 : Bool × TB9) : Option (Int) := (top CT).callF 100 (x0, x1)
abbrev abacistref05_Top (x0 : Bool × TB9 × TB9) : Option (Bool × TB9) := (top CT).callF 101 (x0)
abbrev abacistref07_Parse (x0 : TB9) : Option ((Bool × TB9 × TB9) × Int) := (top CT).callF 102 (x0)
abbrev abacistref07_Parse_1 (a1 : TB9) (a2 : Bool) (a3 : Bool × TB9 × TB9) : Option ((Bool × TB9 × TB9) × Int) := (top CT).stage 102 [] 102 [1, 1] { env := [(0, (.str a1)), (2, (.ptr 32 0)), (4, (.bool a2))], heap := [(32, .box [(.bool a3.1), (.str a3.2.1), (.str a3.2.2)])], salt := 0 }
abbrev abacistref07_Parse_2 (a1 : TB9) (a2 : Bool) (a3 : Bool × TB9 × TB9) : Option ((Bool × TB9 × TB9) × Int) := (top CT).stage 102 [] 102 [1, 1, 1] { env := [(0, (.str a1)), (2, (.ptr 32 0)), (4, (.bool a2))], heap := [(32, .box [(.bool a3.1), (.str a3.2.1), (.str a3.2.2)])], salt := 0 }
abbrev abacistref07_Parse_3 (a1 : Bool) (a2 : Int) (a3 : Bool × TB9 × TB9) (a4 : Bool × TB9 × TB9) : Option ((Bool × TB9 × TB9) × Int) := (top CT).stage 102 [] 102 [1, 1, 1, 1, 1, 1] { env := [(2, (.ptr 32 0)), (4, (.bool a1)), (5, (.ptr 80 0)), (6, (.int .i64 a2))], heap := [(32, .box [(.bool a3.1), (.str a3.2.1), (.str a3.2.2)]), (80, .box [(.bool a4.1), (.str a4.2.1), (.str a4.2.2)])], salt := 0 }
abbrev abacistref07_Parse_4 (a1 : Int) (a2 : Bool) (a3 : Bool × TB9 × TB9) (a4 : Bool × TB9 × TB9) : Option ((Bool × TB9 × TB9) × Int) := (top CT).stage 102 [] 102 [1, 0, 1, 1, 1, 1, 1, 1] { env := [(2, (.ptr 32 0)), (5, (.ptr 80 0)), (6, (.int .i64 a1)), (43, (.bool a2))], heap := [(32, .box [(.bool a3.1), (.str a3.2.1), (.str a3.2.2)]), (80, .box [(.bool a4.1), (.str a4.2.1), (.str a4.2.2)])], salt := 0 }
abbrev abacistref07_Parse_5 (a1 : Int) (a2 : Bool × TB9 × TB9) (a3 : Bool × TB9 × TB9) : Option ((Bool × TB9 × TB9) × Int) := (top CT).stage 102 [] 102 [1, 1, 1, 1, 1, 1, 1] { env := [(2, (.ptr 32 0)), (5, (.ptr 80 0)), (6, (.int .i64 a1))], heap := [(32, .box [(.bool a2.1), (.str a2.2.1), (.str a2.2.2)]), (80, .box [(.bool a3.1), (.str a3.2.1), (.str a3.2.2)])], salt := 0 }
abbrev abacistref06_Whole (x0 : Bool × TB9 × TB9) : Option (Bool) := (top CT).callF 103 (x0)
abbrev abacistref04_Small (x0 : Bool × TB9) : Option (Int × Bool) := (top CT).callF 104 (x0)
abbrev abacistref04_Small_1 (a1 : Int) (a2 : Bool) (a3 : Bool × TB9) : Option (Int × Bool) := (top CT).stage 104 [] 104 [1, 0, 1, 1, 1, 1] { env := [(1, (.ptr 16 0)), (4, (.int .u64 a1)), (30, (.bool a2))], heap := [(16, .box [(.bool a3.1), (.str a3.2)])], salt := 0 }
abbrev abacistref06_Floor (x0 : Bool × TB9 × TB9) : Option ((Bool × TB9 × TB9) × Int) := (top CT).callF 105 (x0)
abbrev abacistref06_Ceil (x0 : Bool × TB9 × TB9) : Option ((Bool × TB9 × TB9) × Int) := (top CT).callF 106 (x0)
abbrev abacistref09_like (x0 : TV9) (x1 : TV9) : Option (TV9) := (top CT).callF 107 (x0, x1)
abbrev abacistref09_order (x0 : Int) (x1 : Int) : Option (Int) := (top CT).callF 108 (x0, x1)
abbrev abacistref05_Cmp (x0 : Bool × TB9 × TB9) (x1 : Bool × TB9 × TB9) : Option (Int) := (top CT).callF 109 (x0, x1)
abbrev abacistref09_bytes (x0 : TB9) (x1 : TB9) : Option (Int) := (top CT).callF 110 (x0, x1)
abbrev abacistref09_bytes_1 (a1 : TB9) (a2 : TB9) (a3 : Int) : Option (Int) := (top CT).stage 110 [] 110 [0, 1, 0, 1] { env := [(0, (.str a1)), (1, (.str a2)), (5, (.int .i64 a3))], heap := [], salt := 0 }
abbrev abacistref09_bytes_2 (a1 : TB9) (a2 : TB9) (a3 : Int) (a4 : Bool) : Option (Int) := (top CT).stage 110 [] 110 [1, 0, 0, 0, 1, 0, 1] { env := [(0, (.str a1)), (1, (.str a2)), (5, (.int .i64 a3)), (15, (.bool a4))], heap := [], salt := 0 }
abbrev abacistref09_bit (x0 : Bool) : Option (Int) := (top CT).callF 111 (x0)
abbrev abacistref05_Zero : Option (Bool × TB9 × TB9) := (top CT).callF 112 ()
abbrev abacistref04_Make (x0 : Bool) (x1 : TB9) : Option (Bool × TB9) := (top CT).callF 113 (x0, x1)
abbrev abacistref02_Div (x0 : TB9) (x1 : TB9) : Option (TB9) := (top CT).callF 114 (x0, x1)
abbrev abacistref01_Bits (x0 : TB9) : Option (Int) := (top CT).callF 115 (x0)
abbrev abacistref01_Of (x0 : Int) : Option (TB9) := (top CT).callF 116 (x0)
abbrev rat_Right (x0 : Bool × TB9 × TB9) : Option (Bool) := (top CT).callF 117 (x0)
abbrev rat_Right_1 (a1 : Bool) (a2 : Bool × TB9 × TB9) : Option (Bool) := (top CT).stage 117 [] 117 [1, 0, 0, 1] { env := [(1, (.ptr 16 0)), (3, (.bool a1))], heap := [(16, .box [(.bool a2.1), (.str a2.2.1), (.str a2.2.2)])], salt := 0 }
abbrev rat_well (x0 : Bool × TB9 × TB9) : Option (Bool × TB9 × TB9) := (top CT).callF 118 (x0)
abbrev value_Named (x0 : TB9) : Option (Int × Bool) := (top CT).callF 119 (x0)
abbrev value_Named_1 (a1 : TB9) : Option (Int × Bool) := (top CT).stage 119 [{ f := 119, path := [0, 0, 1], op := 0, rest := [1], env := [(0, (.str a1))], salt := 0 }] 74 [] { env := [], heap := [], salt := 7 }
abbrev value_Named_2 (a1 : TB9) (a2 : TB9) (a3 : TB9) (a4 : TB9) (a5 : TB9) (a6 : TB9) (a7 : TB9) (a8 : TB9) (a9 : TB9) (a10 : Int) : Option (Int × Bool) := (top CT).stage 119 [] 119 [0, 1, 0, 1] { env := [(0, (.str a1)), (6, (.agg [(.str a2), (.str a3), (.str a4), (.str a5), (.str a6), (.str a7), (.str a8), (.str a9)])), (7, (.int .i64 a10))], heap := [], salt := 0 }
abbrev value_Named_3 (a1 : TB9) (a2 : Int) (a3 : TB9) (a4 : TB9) (a5 : TB9) (a6 : TB9) (a7 : TB9) (a8 : TB9) (a9 : TB9) (a10 : TB9) (a11 : Int) (a12 : Bool) : Option (Int × Bool) := (top CT).stage 119 [] 119 [1, 1, 0, 0, 1, 1, 0, 0, 1, 0, 1] { env := [(0, (.str a1)), (4, (.int .i64 a2)), (6, (.agg [(.str a3), (.str a4), (.str a5), (.str a6), (.str a7), (.str a8), (.str a9), (.str a10)])), (7, (.int .i64 a11)), (17, (.bool a12))], heap := [], salt := 0 }
abbrev strings_CutPrefix (x0 : TB9) (x1 : TB9) : Option (TB9 × Bool) := (top CT).callF 120 (x0, x1)
abbrev strings_Cut (x0 : TB9) (x1 : TB9) : Option (TB9 × TB9 × Bool) := (top CT).callF 121 (x0, x1)
abbrev numtext_fraction (x0 : TB9) (x1 : TB9) : Option ((Bool × TB9 × TB9) × Int) := (top CT).callF 122 (x0, x1)
abbrev numtext_fraction_1 (a1 : TB9) (a2 : Int) (a3 : TB9) (a4 : Int) (a5 : Bool) (a6 : Bool × TB9 × TB9) : Option ((Bool × TB9 × TB9) × Int) := (top CT).stage 122 [] 122 [1, 0, 0, 0, 0, 0, 0, 0, 0, 0, 0, 1, 1, 1] { env := [(4, (.ptr 64 0)), (6, (.str a1)), (7, (.int .i64 a2)), (8, (.str a3)), (9, (.int .i64 a4)), (20, (.bool a5))], heap := [(64, .box [(.bool a6.1), (.str a6.2.1), (.str a6.2.2)])], salt := 0 }
abbrev numtext_fraction_2 (a1 : TB9) (a2 : Int) (a3 : TB9) (a4 : Bool × TB9 × TB9) : Option ((Bool × TB9 × TB9) × Int) := (top CT).stage 122 [] 122 [1, 0, 0, 1, 1, 1] { env := [(4, (.ptr 64 0)), (6, (.str a1)), (7, (.int .i64 a2)), (8, (.str a3))], heap := [(64, .box [(.bool a4.1), (.str a4.2.1), (.str a4.2.2)])], salt := 0 }
abbrev numtext_Decimal (x0 : TB9) : Option ((Bool × TB9 × TB9) × Int) := (top CT).callF 123 (x0)
abbrev numtext_Decimal_1 (a1 : TB9) (a2 : TB9) (a3 : TB9) (a4 : Bool) (a5 : Bool × TB9 × TB9) : Option ((Bool × TB9 × TB9) × Int) := (top CT).stage 123 [] 123 [1, 0, 0, 1, 1] { env := [(0, (.str a1)), (2, (.ptr 32 0)), (4, (.str a2)), (5, (.str a3)), (15, (.bool a4))], heap := [(32, .box [(.bool a5.1), (.str a5.2.1), (.str a5.2.2)])], salt := 0 }
abbrev rat_Neg (x0 : Bool × TB9 × TB9) : Option (Bool × TB9 × TB9) := (top CT).callF 124 (x0)
abbrev rat_Neg_1 (a1 : Bool × TB9 × TB9) (a2 : Bool × TB9 × TB9) : Option (Bool × TB9 × TB9) := (top CT).stage 124 [] 124 [1, 1, 1] { env := [(1, (.ptr 16 0)), (2, (.ptr 32 0))], heap := [(16, .box [(.bool a1.1), (.str a1.2.1), (.str a1.2.2)]), (32, .box [(.bool a2.1), (.str a2.2.1), (.str a2.2.2)])], salt := 0 }
abbrev whole_Of (x0 : Int) : Option (Bool × TB9) := (top CT).callF 125 (x0)
abbrev whole_well (x0 : Bool × TB9) : Option (Bool × TB9) := (top CT).callF 126 (x0)
abbrev nat_Small (x0 : TB9) : Option (Int × Bool) := (top CT).callF 127 (x0)
abbrev nat_Cmp (x0 : TB9) (x1 : TB9) : Option (Int) := (top CT).callF 129 (x0, x1)
abbrev nat_Trim (x0 : TB9) : Option (TB9) := (top CT).callF 130 (x0)
abbrev rat_Make (x0 : Bool × TB9) (x1 : Bool × TB9) : Option ((Bool × TB9 × TB9) × Int) := (top CT).callF 134 (x0, x1)
abbrev rat_Make_1 (a1 : TB9) (a2 : TB9) (a3 : Bool × TB9) (a4 : Bool × TB9) (a5 : Bool × TB9 × TB9) : Option ((Bool × TB9 × TB9) × Int) := (top CT).stage 134 [] 134 [1, 1, 1, 1] { env := [(2, (.ptr 32 0)), (3, (.ptr 48 0)), (4, (.ptr 64 0)), (6, (.str a1)), (7, (.str a2))], heap := [(32, .box [(.bool a3.1), (.str a3.2)]), (48, .box [(.bool a4.1), (.str a4.2)]), (64, .box [(.bool a5.1), (.str a5.2.1), (.str a5.2.2)])], salt := 0 }
abbrev rat_Make_2 (a1 : TB9) (a2 : TB9) (a3 : Bool) (a4 : Bool × TB9) (a5 : Bool × TB9) (a6 : Bool × TB9 × TB9) : Option ((Bool × TB9 × TB9) × Int) := (top CT).stage 134 [] 134 [1, 0, 1, 1, 1, 1] { env := [(2, (.ptr 32 0)), (3, (.ptr 48 0)), (4, (.ptr 64 0)), (6, (.str a1)), (7, (.str a2)), (44, (.bool a3))], heap := [(32, .box [(.bool a4.1), (.str a4.2)]), (48, .box [(.bool a5.1), (.str a5.2)]), (64, .box [(.bool a6.1), (.str a6.2.1), (.str a6.2.2)])], salt := 0 }
abbrev cmp_isNaN_int (x0 : Int) : Option (Bool) := (top CT).callF 135 (x0)
abbrev whole_Cmp (x0 : Bool × TB9) (x1 : Bool × TB9) : Option (Int) := (top CT).callF 136 (x0, x1)
abbrev whole_Cmp_1 (a1 : Int) (a2 : Bool) (a3 : Bool × TB9) (a4 : Bool × TB9) : Option (Int) := (top CT).stage 136 [] 136 [1, 0, 0, 1, 1, 1] { env := [(2, (.ptr 32 0)), (3, (.ptr 48 0)), (5, (.int .i64 a1)), (15, (.bool a2))], heap := [(32, .box [(.bool a3.1), (.str a3.2)]), (48, .box [(.bool a4.1), (.str a4.2)])], salt := 0 }
abbrev rat_crossed (x0 : Bool × TB9 × TB9) (x1 : Bool × TB9 × TB9) : Option ((Bool × TB9) × Bool × TB9) := (top CT).callF 137 (x0, x1)
abbrev cmp_isNaN_string (x0 : TB9) : Option (Bool) := (top CT).callF 138 (x0)
abbrev cmp_isNaN_int64 (x0 : Int) : Option (Bool) := (top CT).callF 139 (x0)
abbrev abacistref02_DivMod (x0 : TB9) (x1 : TB9) : Option (TB9 × TB9 × Int) := (top CT).callF 140 (x0, x1)
abbrev abacistref04_well (x0 : Bool × TB9) : Option (Bool × TB9) := (top CT).callF 141 (x0)
abbrev abacistref01_Cmp (x0 : TB9) (x1 : TB9) : Option (Int) := (top CT).callF 142 (x0, x1)
abbrev abacistref07_Decimal (x0 : TB9) : Option ((Bool × TB9 × TB9) × Int) := (top CT).callF 143 (x0)
abbrev abacistref07_Decimal_1 (a1 : TB9) (a2 : Int) (a3 : TB9) (a4 : TB9) (a5 : Bool × TB9 × TB9) : Option ((Bool × TB9 × TB9) × Int) := (top CT).stage 143 [] 143 [1, 1, 1, 1, 1] { env := [(0, (.str a1)), (2, (.ptr 32 0)), (4, (.int .i64 a2)), (5, (.str a3)), (6, (.str a4))], heap := [(32, .box [(.bool a5.1), (.str a5.2.1), (.str a5.2.2)])], salt := 0 }
abbrev abacistref07_Decimal_2 (a1 : TB9) (a2 : TB9) (a3 : TB9) (a4 : Bool) (a5 : Bool × TB9 × TB9) : Option ((Bool × TB9 × TB9) × Int) := (top CT).stage 143 [] 143 [1, 0, 1, 1, 1, 1, 1] { env := [(0, (.str a1)), (2, (.ptr 32 0)), (5, (.str a2)), (6, (.str a3)), (32, (.bool a4))], heap := [(32, .box [(.bool a5.1), (.str a5.2.1), (.str a5.2.2)])], salt := 0 }
abbrev abacistref07_find (x0 : TB9) (x1 : Int) : Option (Int) := (top CT).callF 144 (x0, x1)
abbrev abacistref07_find_1 (a1 : TB9) (a2 : Int) (a3 : Int) : Option (Int) := (top CT).stage 144 [] 144 [0, 1, 0, 1] { env := [(0, (.str a1)), (1, (.int .u8 a2)), (5, (.int .i64 a3))], heap := [], salt := 0 }
abbrev abacistref07_fraction (x0 : TB9) (x1 : TB9) : Option ((Bool × TB9 × TB9) × Int) := (top CT).callF 145 (x0, x1)
abbrev abacistref07_fraction_1 (a1 : TB9) (a2 : Int) (a3 : TB9) (a4 : Int) (a5 : Bool) (a6 : Bool × TB9 × TB9) : Option ((Bool × TB9 × TB9) × Int) := (top CT).stage 145 [] 145 [1, 0, 1, 1, 1] { env := [(4, (.ptr 64 0)), (6, (.str a1)), (7, (.int .i64 a2)), (8, (.str a3)), (9, (.int .i64 a4)), (25, (.bool a5))], heap := [(64, .box [(.bool a6.1), (.str a6.2.1), (.str a6.2.2)])], salt := 0 }
abbrev abacistref07_fraction_2 (a1 : TB9) (a2 : TB9) (a3 : Bool) (a4 : Bool × TB9 × TB9) : Option ((Bool × TB9 × TB9) × Int) := (top CT).stage 145 [] 145 [1, 0, 1, 1, 1, 1] { env := [(4, (.ptr 64 0)), (6, (.str a1)), (8, (.str a2)), (32, (.bool a3))], heap := [(64, .box [(.bool a4.1), (.str a4.2.1), (.str a4.2.2)])], salt := 0 }
abbrev abacistref05_Neg (x0 : Bool × TB9 × TB9) : Option (Bool × TB9 × TB9) := (top CT).callF 146 (x0)
abbrev abacistref01_Small (x0 : TB9) : Option (Int × Bool) := (top CT).callF 147 (x0)
abbrev abacistref06_floor (x0 : Bool × TB9) (x1 : Bool × TB9) : Option (Bool × TB9) := (top CT).callF 148 (x0, x1)
abbrev abacistref05_Low (x0 : Bool × TB9 × TB9) : Option (Bool × TB9) := (top CT).callF 149 (x0)
abbrev abacistref06_one : Option (Bool × TB9) := (top CT).callF 150 ()
abbrev abacistref04_Mul (x0 : Bool × TB9) (x1 : Bool × TB9) : Option (Bool × TB9) := (top CT).callF 151 (x0, x1)
abbrev rat_tidy (x0 : TB9) : Option (Bool) := (top CT).callF 153 (x0)
abbrev divide_Gcd (x0 : TB9) (x1 : TB9) : Option (TB9) := (top CT).callF 154 (x0, x1)
abbrev internal_stringslite_CutPrefix (x0 : TB9) (x1 : TB9) : Option (TB9 × Bool) := (top CT).callF 155 (x0, x1)
abbrev dec_Parse (x0 : TB9) : Option (TB9 × Int) := (top CT).callF 157 (x0)
abbrev dec_Parse_1 (a1 : TB9) (a2 : Bool) : Option (TB9 × Int) := (top CT).stage 157 [] 157 [1, 0, 0, 1] { env := [(0, (.str a1)), (10, (.bool a2))], heap := [], salt := 0 }
abbrev dec_Parse_2 (a1 : TB9) (a2 : TB9) : Option (TB9 × Int) := (top CT).stage 157 [] 157 [0, 0, 1, 1, 1] { env := [(0, (.str a1)), (4, (.str a2))], heap := [], salt := 0 }
abbrev dec_Parse_3 (a1 : TB9) (a2 : TB9) (a3 : Int) (a4 : Int) (a5 : Int) (a6 : List Int) (a7 : Int) (a8 : Int) : Option (TB9 × Int) := (top CT).stage 157 [] 157 [0, 1, 0, 1, 1, 0, 1, 0, 0, 0, 1, 1, 1] { env := [(0, (.str a1)), (4, (.str a2)), (5, (.int .i64 a3)), (6, (.int .u64 a4)), (7, (.int .u64 a5)), (30, (.sl (.int .u8) a6 false)), (31, (.int .i64 a7)), (32, (.int .i64 a8))], heap := [], salt := 0 }
abbrev numtext_digits (x0 : TB9) : Option (Bool) := (top CT).callF 158 (x0)
abbrev numtext_digits_1 (a1 : TB9) (a2 : List Int) (a3 : Int) (a4 : Int) : Option (Bool) := (top CT).stage 158 [] 158 [0, 1, 0, 1] { env := [(0, (.str a1)), (6, (.sl (.int .u8) a2 false)), (7, (.int .i64 a3)), (8, (.int .i64 a4))], heap := [], salt := 0 }
abbrev numtext_digits_2 (a1 : TB9) (a2 : List Int) (a3 : Int) (a4 : Int) (a5 : Bool) : Option (Bool) := (top CT).stage 158 [] 158 [1, 1, 0, 0, 1, 1, 0, 0, 1, 0, 1] { env := [(0, (.str a1)), (6, (.sl (.int .u8) a2 false)), (7, (.int .i64 a3)), (8, (.int .i64 a4)), (17, (.bool a5))], heap := [], salt := 0 }
abbrev numtext_power (x0 : Int) (x1 : Int) : Option (TB9) := (top CT).callF 159 (x0, x1)
abbrev nat_Of (x0 : Int) : Option (TB9) := (top CT).callF 160 (x0)
abbrev rat_top (x0 : Bool × TB9 × TB9) : Option (Bool × TB9) := (top CT).callF 172 (x0)
abbrev whole_Mul (x0 : Bool × TB9) (x1 : Bool × TB9) : Option (Bool × TB9) := (top CT).callF 173 (x0, x1)
abbrev rat_low (x0 : Bool × TB9 × TB9) : Option (Bool × TB9) := (top CT).callF 174 (x0)
abbrev abacistref07_digits (x0 : TB9) : Option (Bool) := (top CT).callF 176 (x0)
abbrev abacistref07_digits_1 (a1 : TB9) (a2 : Int) : Option (Bool) := (top CT).stage 176 [] 176 [0, 1, 0, 1] { env := [(0, (.str a1)), (3, (.int .i64 a2))], heap := [], salt := 0 }
abbrev abacistref07_digits_2 (a1 : TB9) (a2 : Int) (a3 : Bool) : Option (Bool) := (top CT).stage 176 [] 176 [1, 0, 0, 1, 0, 0, 1, 0, 1] { env := [(0, (.str a1)), (3, (.int .i64 a2)), (19, (.bool a3))], heap := [], salt := 0 }
abbrev abacistref03_Parse (x0 : TB9) : Option (TB9 × Int) := (top CT).callF 177 (x0)
abbrev abacistref03_Parse_1 (a1 : TB9) (a2 : Int) : Option (TB9 × Int) := (top CT).stage 177 [] 177 [0, 1, 0, 1] { env := [(0, (.str a1)), (4, (.int .i64 a2))], heap := [], salt := 0 }
abbrev abacistref03_Parse_2 (a1 : TB9) (a2 : Int) (a3 : Bool) : Option (TB9 × Int) := (top CT).stage 177 [] 177 [1, 0, 0, 1, 0, 0, 1, 0, 1] { env := [(0, (.str a1)), (4, (.int .i64 a2)), (22, (.bool a3))], heap := [], salt := 0 }
abbrev abacistref03_Parse_3 (a1 : TB9) (a2 : TB9) (a3 : Int) : Option (TB9 × Int) := (top CT).stage 177 [] 177 [0, 1, 0, 1, 1, 1, 1, 1] { env := [(0, (.str a1)), (5, (.str a2)), (6, (.int .i64 a3))], heap := [], salt := 0 }
abbrev abacistref07_power (x0 : TB9) (x1 : Int) : Option (TB9) := (top CT).callF 178 (x0, x1)
abbrev abacistref04_Floor (x0 : Bool × TB9) (x1 : Bool × TB9) : Option ((Bool × TB9) × (Bool × TB9) × Int) := (top CT).callF 179 (x0, x1)
abbrev abacistref04_Floor_1 (a1 : Bool) (a2 : Bool × TB9) (a3 : Bool × TB9) (a4 : Bool × TB9) (a5 : Bool × TB9) (a6 : Bool × TB9) : Option ((Bool × TB9) × (Bool × TB9) × Int) := (top CT).stage 179 [] 179 [1, 0, 1, 1, 1, 1, 1, 1] { env := [(2, (.ptr 32 0)), (3, (.ptr 48 0)), (4, (.ptr 64 0)), (5, (.ptr 80 0)), (10, (.ptr 160 0)), (44, (.bool a1))], heap := [(32, .box [(.bool a2.1), (.str a2.2)]), (48, .box [(.bool a3.1), (.str a3.2)]), (64, .box [(.bool a4.1), (.str a4.2)]), (80, .box [(.bool a5.1), (.str a5.2)]), (160, .box [(.bool a6.1), (.str a6.2)])], salt := 0 }
abbrev abacistref04_Floor_2 (a1 : Bool × TB9) (a2 : Bool × TB9) (a3 : Bool × TB9) (a4 : Bool × TB9) (a5 : Bool × TB9) : Option ((Bool × TB9) × (Bool × TB9) × Int) := (top CT).stage 179 [] 179 [1, 1, 1, 1, 1, 1, 1] { env := [(2, (.ptr 32 0)), (3, (.ptr 48 0)), (4, (.ptr 64 0)), (5, (.ptr 80 0)), (10, (.ptr 160 0))], heap := [(32, .box [(.bool a1.1), (.str a1.2)]), (48, .box [(.bool a2.1), (.str a2.2)]), (64, .box [(.bool a3.1), (.str a3.2)]), (80, .box [(.bool a4.1), (.str a4.2)]), (160, .box [(.bool a5.1), (.str a5.2)])], salt := 0 }
abbrev abacistref01_Mul (x0 : TB9) (x1 : TB9) : Option (TB9) := (top CT).callF 180 (x0, x1)
abbrev internal_stringslite_HasPrefix (x0 : TB9) (x1 : TB9) : Option (Bool) := (top CT).callF 181 (x0, x1)
abbrev dec_odd (x0 : TB9) : Option (Bool) := (top CT).callF 183 (x0)
abbrev dec_odd_1 (a1 : List Int) (a2 : Int) (a3 : Int) : Option (Bool) := (top CT).stage 183 [] 183 [0, 1, 0, 1] { env := [(6, (.sl (.int .u8) a1 false)), (7, (.int .i64 a2)), (8, (.int .i64 a3))], heap := [], salt := 0 }
abbrev dec_odd_2 (a1 : List Int) (a2 : Int) (a3 : Int) (a4 : Bool) : Option (Bool) := (top CT).stage 183 [] 183 [1, 1, 0, 0, 1, 1, 0, 0, 1, 0, 1] { env := [(6, (.sl (.int .u8) a1 false)), (7, (.int .i64 a2)), (8, (.int .i64 a3)), (17, (.bool a4))], heap := [], salt := 0 }
abbrev nat_Add (x0 : TB9) (x1 : TB9) : Option (TB9) := (top CT).callF 184 (x0, x1)
abbrev nat_Mul (x0 : TB9) (x1 : TB9) : Option (TB9) := (top CT).callF 185 (x0, x1)
abbrev divide_Pow (x0 : TB9) (x1 : Int) : Option (TB9 × Int) := (top CT).callF 186 (x0, x1)
abbrev abacistref01_Sub (x0 : TB9) (x1 : TB9) : Option (TB9) := (top CT).callF 197 (x0, x1)
abbrev abacistref01_Sub_1 (a1 : TB9) (a2 : TB9) (a3 : Int) (a4 : Int) (a5 : List Int) : Option (TB9) := (top CT).stage 197 [] 197 [0, 1, 0, 1, 1, 1, 1] { env := [(0, (.str a1)), (1, (.str a2)), (5, (.who 1099511627790 false)), (6, (.int .i64 a3)), (7, (.int .i64 a4))], heap := [(1099511627790, .arr (.int .i64) a5)], salt := 0 }
abbrev abacistref01_Sub_2 (a1 : TB9) (a2 : TB9) (a3 : Int) (a4 : Int) (a5 : Bool) (a6 : List Int) : Option (TB9) := (top CT).stage 197 [] 197 [1, 0, 0, 0, 1, 0, 1, 1, 1, 1] { env := [(0, (.str a1)), (1, (.str a2)), (5, (.who 1099511627792 false)), (6, (.int .i64 a3)), (7, (.int .i64 a4)), (22, (.bool a5))], heap := [(1099511627792, .arr (.int .i64) a6)], salt := 0 }
abbrev abacistref01_Sub_3 (a1 : TB9) (a2 : TB9) (a3 : Int) (a4 : Int) (a5 : Int) (a6 : List Int) : Option (TB9) := (top CT).stage 197 [] 197 [1, 1, 1, 0, 0, 1, 0, 0, 1, 0, 1, 1, 1, 1] { env := [(0, (.str a1)), (1, (.str a2)), (5, (.who 1099511627791 false)), (6, (.int .i64 a3)), (7, (.int .i64 a4)), (8, (.int .i64 a5))], heap := [(1099511627791, .arr (.int .i64) a6)], salt := 0 }
abbrev abacistref01_Add (x0 : TB9) (x1 : TB9) : Option (TB9) := (top CT).callF 198 (x0, x1)
abbrev abacistref02_Pow (x0 : TB9) (x1 : Int) : Option (TB9 × Int) := (top CT).callF 199 (x0, x1)
abbrev abacistref04_Sub (x0 : Bool × TB9) (x1 : Bool × TB9) : Option (Bool × TB9) := (top CT).callF 200 (x0, x1)
abbrev abacistref01_at (x0 : TB9) (x1 : Int) : Option (Int) := (top CT).callF 201 (x0, x1)
abbrev abacistref01_turned (x0 : List Int) : Option (TB9) := (top CT).callF 202 (x0)
abbrev abacistref01_turned_1 (a1 : List Int) (a2 : Int) (a3 : List Int) : Option (TB9) := (top CT).stage 202 [] 202 [0, 1, 0, 1, 1] { env := [(0, (.sl (.int .i64) a1 false)), (3, (.who 1099511627793 false)), (4, (.int .i64 a2))], heap := [(1099511627793, .arr (.int .u8) a3)], salt := 0 }
abbrev abacistref04_Add (x0 : Bool × TB9) (x1 : Bool × TB9) : Option (Bool × TB9) := (top CT).callF 213 (x0, x1)
abbrev abacistref04_Neg (x0 : Bool × TB9) : Option (Bool × TB9) := (top CT).callF 214 (x0)
end
end Go.Proofs.YtljapieoihecbaaGreatDoor.K
/- The tables are the program's own. -/
set_option maxRecDepth 100000
namespace Go.Proofs.YtljapieoihecbaaGreatDoor.K
open Go
theorem look_all {α : Type} {Q : Nat → α → Prop} : ∀ {l : List (Nat × α)}, (∀ p ∈ l, Q p.1 p.2) → ∀ t v, look l t = some v → Q t v
  | [], _, t, v, h => by cases h
  | (u, x) :: l, hl, t, v, h => by
    simp only [look] at h
    split at h
    · rename_i hb
      have := Nat.eq_of_beq_eq_true hb
      subst this
      cases h
      exact hl _ (List.mem_cons_self ..)
    · exact look_all (fun p hp => hl p (List.mem_cons_of_mem _ hp)) t v h
theorem all_nil {α : Type} {Q : Nat → α → Prop} : ∀ p ∈ ([] : List (Nat × α)), Q p.1 p.2 := fun p h => by cases h
theorem all_cons {α : Type} {Q : Nat → α → Prop} {u : Nat} {x : α} {l : List (Nat × α)} (h : Q u x) (hl : ∀ p ∈ l, Q p.1 p.2) : ∀ p ∈ (u, x) :: l, Q p.1 p.2 := fun p hp => by
  rcases List.mem_cons.1 hp with rfl | hp
  · exact h
  · exact hl p hp
theorem tiok2 : TIok Tryz.prog 2 ti2 := ⟨by kernel_rfl, by kernel_rfl, by kernel_rfl, by kernel_rfl, by kernel_rfl, by kernel_rfl, by kernel_rfl, by kernel_rfl, ⟨by kernel_rfl, by kernel_rfl, by kernel_rfl⟩, fun h => by cases h⟩
theorem tiok3 : TIok Tryz.prog 3 ti3 := ⟨by kernel_rfl, by kernel_rfl, by kernel_rfl, by kernel_rfl, by kernel_rfl, by kernel_rfl, by kernel_rfl, by kernel_rfl, ⟨by kernel_rfl, by kernel_rfl, by kernel_rfl⟩, fun h => by cases h⟩
theorem tiok4 : TIok Tryz.prog 4 ti4 := ⟨by kernel_rfl, by kernel_rfl, by kernel_rfl, by kernel_rfl, by kernel_rfl, by kernel_rfl, by kernel_rfl, by kernel_rfl, ⟨by kernel_rfl, by kernel_rfl, by kernel_rfl⟩, fun h => by cases h⟩
theorem tiok5 : TIok Tryz.prog 5 ti5 := ⟨by kernel_rfl, by kernel_rfl, by kernel_rfl, by kernel_rfl, by kernel_rfl, by kernel_rfl, by kernel_rfl, by kernel_rfl, ⟨by kernel_rfl, by kernel_rfl, by kernel_rfl⟩, fun h => by cases h⟩
theorem tiok9 : TIok Tryz.prog 9 ti9 := ⟨by kernel_rfl, by kernel_rfl, by kernel_rfl, by kernel_rfl, by kernel_rfl, by kernel_rfl, by kernel_rfl, by kernel_rfl, ⟨by kernel_rfl, by kernel_rfl, by kernel_rfl⟩, fun h => by cases h⟩
theorem tiok22 : TIok Tryz.prog 22 ti22 := ⟨by kernel_rfl, by kernel_rfl, by kernel_rfl, by kernel_rfl, by kernel_rfl, by kernel_rfl, by kernel_rfl, by kernel_rfl, ⟨by kernel_rfl, by kernel_rfl, by kernel_rfl⟩, fun h => by cases h⟩
theorem tiok27 : TIok Tryz.prog 27 ti27 := ⟨by kernel_rfl, by kernel_rfl, by kernel_rfl, by kernel_rfl, by kernel_rfl, by kernel_rfl, by kernel_rfl, by kernel_rfl, ⟨by kernel_rfl, by kernel_rfl, by kernel_rfl⟩, fun h => by cases h⟩
theorem tiok29 : TIok Tryz.prog 29 ti29 := ⟨by kernel_rfl, by kernel_rfl, by kernel_rfl, by kernel_rfl, by kernel_rfl, by kernel_rfl, by kernel_rfl, by kernel_rfl, ⟨by kernel_rfl, by kernel_rfl, by kernel_rfl⟩, fun _ => eq_fits (by kernel_rfl) (by kernel_rfl)⟩
theorem tiok31 : TIok Tryz.prog 31 ti31 := ⟨by kernel_rfl, by kernel_rfl, by kernel_rfl, by kernel_rfl, by kernel_rfl, by kernel_rfl, by kernel_rfl, by kernel_rfl, ⟨by kernel_rfl, by kernel_rfl, by kernel_rfl⟩, fun h => by cases h⟩
theorem tiok33 : TIok Tryz.prog 33 ti33 := ⟨by kernel_rfl, by kernel_rfl, by kernel_rfl, by kernel_rfl, by kernel_rfl, by kernel_rfl, by kernel_rfl, by kernel_rfl, ⟨by kernel_rfl, by kernel_rfl, by kernel_rfl⟩, fun h => by cases h⟩
theorem tiok35 : TIok Tryz.prog 35 ti35 := ⟨by kernel_rfl, by kernel_rfl, by kernel_rfl, by kernel_rfl, by kernel_rfl, by kernel_rfl, by kernel_rfl, by kernel_rfl, ⟨by kernel_rfl, by kernel_rfl, by kernel_rfl⟩, fun h => by cases h⟩
theorem tiok78 : TIok Tryz.prog 78 ti78 := ⟨by kernel_rfl, by kernel_rfl, by kernel_rfl, by kernel_rfl, by kernel_rfl, by kernel_rfl, by kernel_rfl, by kernel_rfl, ⟨by kernel_rfl, by kernel_rfl, by kernel_rfl⟩, fun h => by cases h⟩
theorem tiok83 : TIok Tryz.prog 83 ti83 := ⟨by kernel_rfl, by kernel_rfl, by kernel_rfl, by kernel_rfl, by kernel_rfl, by kernel_rfl, by kernel_rfl, by kernel_rfl, ⟨by kernel_rfl, by kernel_rfl, by kernel_rfl⟩, fun h => by cases h⟩
theorem tiok88 : TIok Tryz.prog 88 ti88 := ⟨by kernel_rfl, by kernel_rfl, by kernel_rfl, by kernel_rfl, by kernel_rfl, by kernel_rfl, by kernel_rfl, by kernel_rfl, ⟨by kernel_rfl, by kernel_rfl, by kernel_rfl⟩, fun _ => eq_fits (by kernel_rfl) (by kernel_rfl)⟩
theorem tiok91 : TIok Tryz.prog 91 ti91 := ⟨by kernel_rfl, by kernel_rfl, by kernel_rfl, by kernel_rfl, by kernel_rfl, by kernel_rfl, by kernel_rfl, by kernel_rfl, trivial, fun h => by cases h⟩
theorem tiok95 : TIok Tryz.prog 95 ti95 := ⟨by kernel_rfl, by kernel_rfl, by kernel_rfl, by kernel_rfl, by kernel_rfl, by kernel_rfl, by kernel_rfl, by kernel_rfl, ⟨by kernel_rfl, by kernel_rfl, by kernel_rfl⟩, fun h => by cases h⟩
theorem tiok121 : TIok Tryz.prog 121 ti121 := ⟨by kernel_rfl, by kernel_rfl, by kernel_rfl, by kernel_rfl, by kernel_rfl, by kernel_rfl, by kernel_rfl, by kernel_rfl, ⟨by kernel_rfl, by kernel_rfl, by kernel_rfl⟩, fun h => by cases h⟩
theorem tiok142 : TIok Tryz.prog 142 ti142 := ⟨by kernel_rfl, by kernel_rfl, by kernel_rfl, by kernel_rfl, by kernel_rfl, by kernel_rfl, by kernel_rfl, by kernel_rfl, ⟨by kernel_rfl, by kernel_rfl, by kernel_rfl⟩, fun h => by cases h⟩
theorem tiok144 : TIok Tryz.prog 144 ti144 := ⟨by kernel_rfl, by kernel_rfl, by kernel_rfl, by kernel_rfl, by kernel_rfl, by kernel_rfl, by kernel_rfl, by kernel_rfl, ⟨by kernel_rfl, by kernel_rfl, by kernel_rfl⟩, fun h => by cases h⟩
theorem tis_ok : CtxTI Tryz.prog CT := look_all (l := tis) (all_cons tiok2 (all_cons tiok3 (all_cons tiok4 (all_cons tiok5 (all_cons tiok9 (all_cons tiok22 (all_cons tiok27 (all_cons tiok29 (all_cons tiok31 (all_cons tiok33 (all_cons tiok35 (all_cons tiok78 (all_cons tiok83 (all_cons tiok88 (all_cons tiok91 (all_cons tiok95 (all_cons tiok121 (all_cons tiok142 (all_cons tiok144 all_nil)))))))))))))))))))
def FnOk (f : Nat) (fn : Func) : Prop := Tryz.prog.funcs[f]? = some fn ∧ fn.body.isSome = true ∧ (fn.name == "runtime.NumGoroutine") = false
def ParOk (i : Nat) (fn : Func) : Prop := ((look ptsL i).getD []).length ≤ fn.ntmps
theorem fnok19 : FnOk 19 Tryz.f19 := ⟨Tryz.func19, by kernel_rfl, by kernel_rfl⟩
theorem parok19 : ParOk 19 Tryz.f19 := Nat.le_of_ble_eq_true (by kernel_rfl)
theorem fnok46 : FnOk 46 Tryz.f46 := ⟨Tryz.func46, by kernel_rfl, by kernel_rfl⟩
theorem parok46 : ParOk 46 Tryz.f46 := Nat.le_of_ble_eq_true (by kernel_rfl)
theorem fnok47 : FnOk 47 Tryz.f47 := ⟨Tryz.func47, by kernel_rfl, by kernel_rfl⟩
theorem parok47 : ParOk 47 Tryz.f47 := Nat.le_of_ble_eq_true (by kernel_rfl)
theorem fnok48 : FnOk 48 Tryz.f48 := ⟨Tryz.func48, by kernel_rfl, by kernel_rfl⟩
theorem parok48 : ParOk 48 Tryz.f48 := Nat.le_of_ble_eq_true (by kernel_rfl)
theorem fnok50 : FnOk 50 Tryz.f50 := ⟨Tryz.func50, by kernel_rfl, by kernel_rfl⟩
theorem parok50 : ParOk 50 Tryz.f50 := Nat.le_of_ble_eq_true (by kernel_rfl)
theorem fnok74 : FnOk 74 Tryz.f74 := ⟨Tryz.func74, by kernel_rfl, by kernel_rfl⟩
theorem parok74 : ParOk 74 Tryz.f74 := Nat.le_of_ble_eq_true (by kernel_rfl)
theorem fnok75 : FnOk 75 Tryz.f75 := ⟨Tryz.func75, by kernel_rfl, by kernel_rfl⟩
theorem parok75 : ParOk 75 Tryz.f75 := Nat.le_of_ble_eq_true (by kernel_rfl)
theorem fnok77 : FnOk 77 Tryz.f77 := ⟨Tryz.func77, by kernel_rfl, by kernel_rfl⟩
theorem parok77 : ParOk 77 Tryz.f77 := Nat.le_of_ble_eq_true (by kernel_rfl)
theorem fnok91 : FnOk 91 Tryz.f91 := ⟨Tryz.func91, by kernel_rfl, by kernel_rfl⟩
theorem parok91 : ParOk 91 Tryz.f91 := Nat.le_of_ble_eq_true (by kernel_rfl)
theorem fnok3 : FnOk 3 Tryz.f3 := ⟨Tryz.func3, by kernel_rfl, by kernel_rfl⟩
theorem parok3 : ParOk 3 Tryz.f3 := Nat.le_of_ble_eq_true (by kernel_rfl)
theorem fnok4 : FnOk 4 Tryz.f4 := ⟨Tryz.func4, by kernel_rfl, by kernel_rfl⟩
theorem parok4 : ParOk 4 Tryz.f4 := Nat.le_of_ble_eq_true (by kernel_rfl)
theorem fnok5 : FnOk 5 Tryz.f5 := ⟨Tryz.func5, by kernel_rfl, by kernel_rfl⟩
theorem parok5 : ParOk 5 Tryz.f5 := Nat.le_of_ble_eq_true (by kernel_rfl)
theorem fnok6 : FnOk 6 Tryz.f6 := ⟨Tryz.func6, by kernel_rfl, by kernel_rfl⟩
theorem parok6 : ParOk 6 Tryz.f6 := Nat.le_of_ble_eq_true (by kernel_rfl)
theorem fnok7 : FnOk 7 Tryz.f7 := ⟨Tryz.func7, by kernel_rfl, by kernel_rfl⟩
theorem parok7 : ParOk 7 Tryz.f7 := Nat.le_of_ble_eq_true (by kernel_rfl)
theorem fnok8 : FnOk 8 Tryz.f8 := ⟨Tryz.func8, by kernel_rfl, by kernel_rfl⟩
theorem parok8 : ParOk 8 Tryz.f8 := Nat.le_of_ble_eq_true (by kernel_rfl)
theorem fnok9 : FnOk 9 Tryz.f9 := ⟨Tryz.func9, by kernel_rfl, by kernel_rfl⟩
theorem parok9 : ParOk 9 Tryz.f9 := Nat.le_of_ble_eq_true (by kernel_rfl)
theorem fnok10 : FnOk 10 Tryz.f10 := ⟨Tryz.func10, by kernel_rfl, by kernel_rfl⟩
theorem parok10 : ParOk 10 Tryz.f10 := Nat.le_of_ble_eq_true (by kernel_rfl)
theorem fnok11 : FnOk 11 Tryz.f11 := ⟨Tryz.func11, by kernel_rfl, by kernel_rfl⟩
theorem parok11 : ParOk 11 Tryz.f11 := Nat.le_of_ble_eq_true (by kernel_rfl)
theorem fnok12 : FnOk 12 Tryz.f12 := ⟨Tryz.func12, by kernel_rfl, by kernel_rfl⟩
theorem parok12 : ParOk 12 Tryz.f12 := Nat.le_of_ble_eq_true (by kernel_rfl)
theorem fnok13 : FnOk 13 Tryz.f13 := ⟨Tryz.func13, by kernel_rfl, by kernel_rfl⟩
theorem parok13 : ParOk 13 Tryz.f13 := Nat.le_of_ble_eq_true (by kernel_rfl)
theorem fnok14 : FnOk 14 Tryz.f14 := ⟨Tryz.func14, by kernel_rfl, by kernel_rfl⟩
theorem parok14 : ParOk 14 Tryz.f14 := Nat.le_of_ble_eq_true (by kernel_rfl)
theorem fnok15 : FnOk 15 Tryz.f15 := ⟨Tryz.func15, by kernel_rfl, by kernel_rfl⟩
theorem parok15 : ParOk 15 Tryz.f15 := Nat.le_of_ble_eq_true (by kernel_rfl)
theorem fnok16 : FnOk 16 Tryz.f16 := ⟨Tryz.func16, by kernel_rfl, by kernel_rfl⟩
theorem parok16 : ParOk 16 Tryz.f16 := Nat.le_of_ble_eq_true (by kernel_rfl)
theorem fnok17 : FnOk 17 Tryz.f17 := ⟨Tryz.func17, by kernel_rfl, by kernel_rfl⟩
theorem parok17 : ParOk 17 Tryz.f17 := Nat.le_of_ble_eq_true (by kernel_rfl)
theorem fnok18 : FnOk 18 Tryz.f18 := ⟨Tryz.func18, by kernel_rfl, by kernel_rfl⟩
theorem parok18 : ParOk 18 Tryz.f18 := Nat.le_of_ble_eq_true (by kernel_rfl)
theorem fnok20 : FnOk 20 Tryz.f20 := ⟨Tryz.func20, by kernel_rfl, by kernel_rfl⟩
theorem parok20 : ParOk 20 Tryz.f20 := Nat.le_of_ble_eq_true (by kernel_rfl)
theorem fnok21 : FnOk 21 Tryz.f21 := ⟨Tryz.func21, by kernel_rfl, by kernel_rfl⟩
theorem parok21 : ParOk 21 Tryz.f21 := Nat.le_of_ble_eq_true (by kernel_rfl)
theorem fnok22 : FnOk 22 Tryz.f22 := ⟨Tryz.func22, by kernel_rfl, by kernel_rfl⟩
theorem parok22 : ParOk 22 Tryz.f22 := Nat.le_of_ble_eq_true (by kernel_rfl)
theorem fnok23 : FnOk 23 Tryz.f23 := ⟨Tryz.func23, by kernel_rfl, by kernel_rfl⟩
theorem parok23 : ParOk 23 Tryz.f23 := Nat.le_of_ble_eq_true (by kernel_rfl)
theorem fnok24 : FnOk 24 Tryz.f24 := ⟨Tryz.func24, by kernel_rfl, by kernel_rfl⟩
theorem parok24 : ParOk 24 Tryz.f24 := Nat.le_of_ble_eq_true (by kernel_rfl)
theorem fnok25 : FnOk 25 Tryz.f25 := ⟨Tryz.func25, by kernel_rfl, by kernel_rfl⟩
theorem parok25 : ParOk 25 Tryz.f25 := Nat.le_of_ble_eq_true (by kernel_rfl)
theorem fnok26 : FnOk 26 Tryz.f26 := ⟨Tryz.func26, by kernel_rfl, by kernel_rfl⟩
theorem parok26 : ParOk 26 Tryz.f26 := Nat.le_of_ble_eq_true (by kernel_rfl)
theorem fnok27 : FnOk 27 Tryz.f27 := ⟨Tryz.func27, by kernel_rfl, by kernel_rfl⟩
theorem parok27 : ParOk 27 Tryz.f27 := Nat.le_of_ble_eq_true (by kernel_rfl)
theorem fnok28 : FnOk 28 Tryz.f28 := ⟨Tryz.func28, by kernel_rfl, by kernel_rfl⟩
theorem parok28 : ParOk 28 Tryz.f28 := Nat.le_of_ble_eq_true (by kernel_rfl)
theorem fnok29 : FnOk 29 Tryz.f29 := ⟨Tryz.func29, by kernel_rfl, by kernel_rfl⟩
theorem parok29 : ParOk 29 Tryz.f29 := Nat.le_of_ble_eq_true (by kernel_rfl)
theorem fnok30 : FnOk 30 Tryz.f30 := ⟨Tryz.func30, by kernel_rfl, by kernel_rfl⟩
theorem parok30 : ParOk 30 Tryz.f30 := Nat.le_of_ble_eq_true (by kernel_rfl)
theorem fnok31 : FnOk 31 Tryz.f31 := ⟨Tryz.func31, by kernel_rfl, by kernel_rfl⟩
theorem parok31 : ParOk 31 Tryz.f31 := Nat.le_of_ble_eq_true (by kernel_rfl)
theorem fnok32 : FnOk 32 Tryz.f32 := ⟨Tryz.func32, by kernel_rfl, by kernel_rfl⟩
theorem parok32 : ParOk 32 Tryz.f32 := Nat.le_of_ble_eq_true (by kernel_rfl)
theorem fnok33 : FnOk 33 Tryz.f33 := ⟨Tryz.func33, by kernel_rfl, by kernel_rfl⟩
theorem parok33 : ParOk 33 Tryz.f33 := Nat.le_of_ble_eq_true (by kernel_rfl)
theorem fnok34 : FnOk 34 Tryz.f34 := ⟨Tryz.func34, by kernel_rfl, by kernel_rfl⟩
theorem parok34 : ParOk 34 Tryz.f34 := Nat.le_of_ble_eq_true (by kernel_rfl)
theorem fnok35 : FnOk 35 Tryz.f35 := ⟨Tryz.func35, by kernel_rfl, by kernel_rfl⟩
theorem parok35 : ParOk 35 Tryz.f35 := Nat.le_of_ble_eq_true (by kernel_rfl)
theorem fnok36 : FnOk 36 Tryz.f36 := ⟨Tryz.func36, by kernel_rfl, by kernel_rfl⟩
theorem parok36 : ParOk 36 Tryz.f36 := Nat.le_of_ble_eq_true (by kernel_rfl)
theorem fnok37 : FnOk 37 Tryz.f37 := ⟨Tryz.func37, by kernel_rfl, by kernel_rfl⟩
theorem parok37 : ParOk 37 Tryz.f37 := Nat.le_of_ble_eq_true (by kernel_rfl)
theorem fnok38 : FnOk 38 Tryz.f38 := ⟨Tryz.func38, by kernel_rfl, by kernel_rfl⟩
theorem parok38 : ParOk 38 Tryz.f38 := Nat.le_of_ble_eq_true (by kernel_rfl)
theorem fnok39 : FnOk 39 Tryz.f39 := ⟨Tryz.func39, by kernel_rfl, by kernel_rfl⟩
theorem parok39 : ParOk 39 Tryz.f39 := Nat.le_of_ble_eq_true (by kernel_rfl)
theorem fnok40 : FnOk 40 Tryz.f40 := ⟨Tryz.func40, by kernel_rfl, by kernel_rfl⟩
theorem parok40 : ParOk 40 Tryz.f40 := Nat.le_of_ble_eq_true (by kernel_rfl)
theorem fnok41 : FnOk 41 Tryz.f41 := ⟨Tryz.func41, by kernel_rfl, by kernel_rfl⟩
theorem parok41 : ParOk 41 Tryz.f41 := Nat.le_of_ble_eq_true (by kernel_rfl)
theorem fnok42 : FnOk 42 Tryz.f42 := ⟨Tryz.func42, by kernel_rfl, by kernel_rfl⟩
theorem parok42 : ParOk 42 Tryz.f42 := Nat.le_of_ble_eq_true (by kernel_rfl)
theorem fnok43 : FnOk 43 Tryz.f43 := ⟨Tryz.func43, by kernel_rfl, by kernel_rfl⟩
theorem parok43 : ParOk 43 Tryz.f43 := Nat.le_of_ble_eq_true (by kernel_rfl)
theorem fnok44 : FnOk 44 Tryz.f44 := ⟨Tryz.func44, by kernel_rfl, by kernel_rfl⟩
theorem parok44 : ParOk 44 Tryz.f44 := Nat.le_of_ble_eq_true (by kernel_rfl)
theorem fnok45 : FnOk 45 Tryz.f45 := ⟨Tryz.func45, by kernel_rfl, by kernel_rfl⟩
theorem parok45 : ParOk 45 Tryz.f45 := Nat.le_of_ble_eq_true (by kernel_rfl)
theorem fnok49 : FnOk 49 Tryz.f49 := ⟨Tryz.func49, by kernel_rfl, by kernel_rfl⟩
theorem parok49 : ParOk 49 Tryz.f49 := Nat.le_of_ble_eq_true (by kernel_rfl)
theorem fnok51 : FnOk 51 Tryz.f51 := ⟨Tryz.func51, by kernel_rfl, by kernel_rfl⟩
theorem parok51 : ParOk 51 Tryz.f51 := Nat.le_of_ble_eq_true (by kernel_rfl)
theorem fnok52 : FnOk 52 Tryz.f52 := ⟨Tryz.func52, by kernel_rfl, by kernel_rfl⟩
theorem parok52 : ParOk 52 Tryz.f52 := Nat.le_of_ble_eq_true (by kernel_rfl)
theorem fnok53 : FnOk 53 Tryz.f53 := ⟨Tryz.func53, by kernel_rfl, by kernel_rfl⟩
theorem parok53 : ParOk 53 Tryz.f53 := Nat.le_of_ble_eq_true (by kernel_rfl)
theorem fnok54 : FnOk 54 Tryz.f54 := ⟨Tryz.func54, by kernel_rfl, by kernel_rfl⟩
theorem parok54 : ParOk 54 Tryz.f54 := Nat.le_of_ble_eq_true (by kernel_rfl)
theorem fnok55 : FnOk 55 Tryz.f55 := ⟨Tryz.func55, by kernel_rfl, by kernel_rfl⟩
theorem parok55 : ParOk 55 Tryz.f55 := Nat.le_of_ble_eq_true (by kernel_rfl)
theorem fnok56 : FnOk 56 Tryz.f56 := ⟨Tryz.func56, by kernel_rfl, by kernel_rfl⟩
theorem parok56 : ParOk 56 Tryz.f56 := Nat.le_of_ble_eq_true (by kernel_rfl)
theorem fnok57 : FnOk 57 Tryz.f57 := ⟨Tryz.func57, by kernel_rfl, by kernel_rfl⟩
theorem parok57 : ParOk 57 Tryz.f57 := Nat.le_of_ble_eq_true (by kernel_rfl)
theorem fnok58 : FnOk 58 Tryz.f58 := ⟨Tryz.func58, by kernel_rfl, by kernel_rfl⟩
theorem parok58 : ParOk 58 Tryz.f58 := Nat.le_of_ble_eq_true (by kernel_rfl)
theorem fnok59 : FnOk 59 Tryz.f59 := ⟨Tryz.func59, by kernel_rfl, by kernel_rfl⟩
theorem parok59 : ParOk 59 Tryz.f59 := Nat.le_of_ble_eq_true (by kernel_rfl)
theorem fnok60 : FnOk 60 Tryz.f60 := ⟨Tryz.func60, by kernel_rfl, by kernel_rfl⟩
theorem parok60 : ParOk 60 Tryz.f60 := Nat.le_of_ble_eq_true (by kernel_rfl)
theorem fnok61 : FnOk 61 Tryz.f61 := ⟨Tryz.func61, by kernel_rfl, by kernel_rfl⟩
theorem parok61 : ParOk 61 Tryz.f61 := Nat.le_of_ble_eq_true (by kernel_rfl)
theorem fnok62 : FnOk 62 Tryz.f62 := ⟨Tryz.func62, by kernel_rfl, by kernel_rfl⟩
theorem parok62 : ParOk 62 Tryz.f62 := Nat.le_of_ble_eq_true (by kernel_rfl)
theorem fnok63 : FnOk 63 Tryz.f63 := ⟨Tryz.func63, by kernel_rfl, by kernel_rfl⟩
theorem parok63 : ParOk 63 Tryz.f63 := Nat.le_of_ble_eq_true (by kernel_rfl)
theorem fnok64 : FnOk 64 Tryz.f64 := ⟨Tryz.func64, by kernel_rfl, by kernel_rfl⟩
theorem parok64 : ParOk 64 Tryz.f64 := Nat.le_of_ble_eq_true (by kernel_rfl)
theorem fnok65 : FnOk 65 Tryz.f65 := ⟨Tryz.func65, by kernel_rfl, by kernel_rfl⟩
theorem parok65 : ParOk 65 Tryz.f65 := Nat.le_of_ble_eq_true (by kernel_rfl)
theorem fnok66 : FnOk 66 Tryz.f66 := ⟨Tryz.func66, by kernel_rfl, by kernel_rfl⟩
theorem parok66 : ParOk 66 Tryz.f66 := Nat.le_of_ble_eq_true (by kernel_rfl)
theorem fnok67 : FnOk 67 Tryz.f67 := ⟨Tryz.func67, by kernel_rfl, by kernel_rfl⟩
theorem parok67 : ParOk 67 Tryz.f67 := Nat.le_of_ble_eq_true (by kernel_rfl)
theorem fnok68 : FnOk 68 Tryz.f68 := ⟨Tryz.func68, by kernel_rfl, by kernel_rfl⟩
theorem parok68 : ParOk 68 Tryz.f68 := Nat.le_of_ble_eq_true (by kernel_rfl)
theorem fnok69 : FnOk 69 Tryz.f69 := ⟨Tryz.func69, by kernel_rfl, by kernel_rfl⟩
theorem parok69 : ParOk 69 Tryz.f69 := Nat.le_of_ble_eq_true (by kernel_rfl)
theorem fnok70 : FnOk 70 Tryz.f70 := ⟨Tryz.func70, by kernel_rfl, by kernel_rfl⟩
theorem parok70 : ParOk 70 Tryz.f70 := Nat.le_of_ble_eq_true (by kernel_rfl)
theorem fnok71 : FnOk 71 Tryz.f71 := ⟨Tryz.func71, by kernel_rfl, by kernel_rfl⟩
theorem parok71 : ParOk 71 Tryz.f71 := Nat.le_of_ble_eq_true (by kernel_rfl)
theorem fnok72 : FnOk 72 Tryz.f72 := ⟨Tryz.func72, by kernel_rfl, by kernel_rfl⟩
theorem parok72 : ParOk 72 Tryz.f72 := Nat.le_of_ble_eq_true (by kernel_rfl)
theorem fnok73 : FnOk 73 Tryz.f73 := ⟨Tryz.func73, by kernel_rfl, by kernel_rfl⟩
theorem parok73 : ParOk 73 Tryz.f73 := Nat.le_of_ble_eq_true (by kernel_rfl)
theorem fnok76 : FnOk 76 Tryz.f76 := ⟨Tryz.func76, by kernel_rfl, by kernel_rfl⟩
theorem parok76 : ParOk 76 Tryz.f76 := Nat.le_of_ble_eq_true (by kernel_rfl)
theorem fnok78 : FnOk 78 Tryz.f78 := ⟨Tryz.func78, by kernel_rfl, by kernel_rfl⟩
theorem parok78 : ParOk 78 Tryz.f78 := Nat.le_of_ble_eq_true (by kernel_rfl)
theorem fnok79 : FnOk 79 Tryz.f79 := ⟨Tryz.func79, by kernel_rfl, by kernel_rfl⟩
theorem parok79 : ParOk 79 Tryz.f79 := Nat.le_of_ble_eq_true (by kernel_rfl)
theorem fnok80 : FnOk 80 Tryz.f80 := ⟨Tryz.func80, by kernel_rfl, by kernel_rfl⟩
theorem parok80 : ParOk 80 Tryz.f80 := Nat.le_of_ble_eq_true (by kernel_rfl)
theorem fnok81 : FnOk 81 Tryz.f81 := ⟨Tryz.func81, by kernel_rfl, by kernel_rfl⟩
theorem parok81 : ParOk 81 Tryz.f81 := Nat.le_of_ble_eq_true (by kernel_rfl)
theorem fnok82 : FnOk 82 Tryz.f82 := ⟨Tryz.func82, by kernel_rfl, by kernel_rfl⟩
theorem parok82 : ParOk 82 Tryz.f82 := Nat.le_of_ble_eq_true (by kernel_rfl)
theorem fnok83 : FnOk 83 Tryz.f83 := ⟨Tryz.func83, by kernel_rfl, by kernel_rfl⟩
theorem parok83 : ParOk 83 Tryz.f83 := Nat.le_of_ble_eq_true (by kernel_rfl)
theorem fnok84 : FnOk 84 Tryz.f84 := ⟨Tryz.func84, by kernel_rfl, by kernel_rfl⟩
theorem parok84 : ParOk 84 Tryz.f84 := Nat.le_of_ble_eq_true (by kernel_rfl)
theorem fnok85 : FnOk 85 Tryz.f85 := ⟨Tryz.func85, by kernel_rfl, by kernel_rfl⟩
theorem parok85 : ParOk 85 Tryz.f85 := Nat.le_of_ble_eq_true (by kernel_rfl)
theorem fnok86 : FnOk 86 Tryz.f86 := ⟨Tryz.func86, by kernel_rfl, by kernel_rfl⟩
theorem parok86 : ParOk 86 Tryz.f86 := Nat.le_of_ble_eq_true (by kernel_rfl)
theorem fnok87 : FnOk 87 Tryz.f87 := ⟨Tryz.func87, by kernel_rfl, by kernel_rfl⟩
theorem parok87 : ParOk 87 Tryz.f87 := Nat.le_of_ble_eq_true (by kernel_rfl)
theorem fnok88 : FnOk 88 Tryz.f88 := ⟨Tryz.func88, by kernel_rfl, by kernel_rfl⟩
theorem parok88 : ParOk 88 Tryz.f88 := Nat.le_of_ble_eq_true (by kernel_rfl)
theorem fnok89 : FnOk 89 Tryz.f89 := ⟨Tryz.func89, by kernel_rfl, by kernel_rfl⟩
theorem parok89 : ParOk 89 Tryz.f89 := Nat.le_of_ble_eq_true (by kernel_rfl)
theorem fnok90 : FnOk 90 Tryz.f90 := ⟨Tryz.func90, by kernel_rfl, by kernel_rfl⟩
theorem parok90 : ParOk 90 Tryz.f90 := Nat.le_of_ble_eq_true (by kernel_rfl)
theorem fnok92 : FnOk 92 Tryz.f92 := ⟨Tryz.func92, by kernel_rfl, by kernel_rfl⟩
theorem parok92 : ParOk 92 Tryz.f92 := Nat.le_of_ble_eq_true (by kernel_rfl)
theorem fnok93 : FnOk 93 Tryz.f93 := ⟨Tryz.func93, by kernel_rfl, by kernel_rfl⟩
theorem parok93 : ParOk 93 Tryz.f93 := Nat.le_of_ble_eq_true (by kernel_rfl)
theorem fnok94 : FnOk 94 Tryz.f94 := ⟨Tryz.func94, by kernel_rfl, by kernel_rfl⟩
theorem parok94 : ParOk 94 Tryz.f94 := Nat.le_of_ble_eq_true (by kernel_rfl)
theorem fnok95 : FnOk 95 Tryz.f95 := ⟨Tryz.func95, by kernel_rfl, by kernel_rfl⟩
theorem parok95 : ParOk 95 Tryz.f95 := Nat.le_of_ble_eq_true (by kernel_rfl)
theorem fnok96 : FnOk 96 Tryz.f96 := ⟨Tryz.func96, by kernel_rfl, by kernel_rfl⟩
theorem parok96 : ParOk 96 Tryz.f96 := Nat.le_of_ble_eq_true (by kernel_rfl)
theorem fnok97 : FnOk 97 Tryz.f97 := ⟨Tryz.func97, by kernel_rfl, by kernel_rfl⟩
theorem parok97 : ParOk 97 Tryz.f97 := Nat.le_of_ble_eq_true (by kernel_rfl)
theorem fnok98 : FnOk 98 Tryz.f98 := ⟨Tryz.func98, by kernel_rfl, by kernel_rfl⟩
theorem parok98 : ParOk 98 Tryz.f98 := Nat.le_of_ble_eq_true (by kernel_rfl)
theorem fnok100 : FnOk 100 Tryz.f100 := ⟨Tryz.func100, by kernel_rfl, by kernel_rfl⟩
theorem parok100 : ParOk 100 Tryz.f100 := Nat.le_of_ble_eq_true (by kernel_rfl)
theorem fnok101 : FnOk 101 Tryz.f101 := ⟨Tryz.func101, by kernel_rfl, by kernel_rfl⟩
theorem parok101 : ParOk 101 Tryz.f101 := Nat.le_of_ble_eq_true (by kernel_rfl)
theorem fnok102 : FnOk 102 Tryz.f102 := ⟨Tryz.func102, by kernel_rfl, by kernel_rfl⟩
theorem parok102 : ParOk 102 Tryz.f102 := Nat.le_of_ble_eq_true (by kernel_rfl)
theorem fnok103 : FnOk 103 Tryz.f103 := ⟨Tryz.func103, by kernel_rfl, by kernel_rfl⟩
theorem parok103 : ParOk 103 Tryz.f103 := Nat.le_of_ble_eq_true (by kernel_rfl)
theorem fnok104 : FnOk 104 Tryz.f104 := ⟨Tryz.func104, by kernel_rfl, by kernel_rfl⟩
theorem parok104 : ParOk 104 Tryz.f104 := Nat.le_of_ble_eq_true (by kernel_rfl)
theorem fnok105 : FnOk 105 Tryz.f105 := ⟨Tryz.func105, by kernel_rfl, by kernel_rfl⟩
theorem parok105 : ParOk 105 Tryz.f105 := Nat.le_of_ble_eq_true (by kernel_rfl)
theorem fnok106 : FnOk 106 Tryz.f106 := ⟨Tryz.func106, by kernel_rfl, by kernel_rfl⟩
theorem parok106 : ParOk 106 Tryz.f106 := Nat.le_of_ble_eq_true (by kernel_rfl)
theorem fnok107 : FnOk 107 Tryz.f107 := ⟨Tryz.func107, by kernel_rfl, by kernel_rfl⟩
theorem parok107 : ParOk 107 Tryz.f107 := Nat.le_of_ble_eq_true (by kernel_rfl)
theorem fnok108 : FnOk 108 Tryz.f108 := ⟨Tryz.func108, by kernel_rfl, by kernel_rfl⟩
theorem parok108 : ParOk 108 Tryz.f108 := Nat.le_of_ble_eq_true (by kernel_rfl)
theorem fnok109 : FnOk 109 Tryz.f109 := ⟨Tryz.func109, by kernel_rfl, by kernel_rfl⟩
theorem parok109 : ParOk 109 Tryz.f109 := Nat.le_of_ble_eq_true (by kernel_rfl)
theorem fnok110 : FnOk 110 Tryz.f110 := ⟨Tryz.func110, by kernel_rfl, by kernel_rfl⟩
theorem parok110 : ParOk 110 Tryz.f110 := Nat.le_of_ble_eq_true (by kernel_rfl)
theorem fnok111 : FnOk 111 Tryz.f111 := ⟨Tryz.func111, by kernel_rfl, by kernel_rfl⟩
theorem parok111 : ParOk 111 Tryz.f111 := Nat.le_of_ble_eq_true (by kernel_rfl)
theorem fnok112 : FnOk 112 Tryz.f112 := ⟨Tryz.func112, by kernel_rfl, by kernel_rfl⟩
theorem parok112 : ParOk 112 Tryz.f112 := Nat.le_of_ble_eq_true (by kernel_rfl)
theorem fnok113 : FnOk 113 Tryz.f113 := ⟨Tryz.func113, by kernel_rfl, by kernel_rfl⟩
theorem parok113 : ParOk 113 Tryz.f113 := Nat.le_of_ble_eq_true (by kernel_rfl)
theorem fnok114 : FnOk 114 Tryz.f114 := ⟨Tryz.func114, by kernel_rfl, by kernel_rfl⟩
theorem parok114 : ParOk 114 Tryz.f114 := Nat.le_of_ble_eq_true (by kernel_rfl)
theorem fnok115 : FnOk 115 Tryz.f115 := ⟨Tryz.func115, by kernel_rfl, by kernel_rfl⟩
theorem parok115 : ParOk 115 Tryz.f115 := Nat.le_of_ble_eq_true (by kernel_rfl)
theorem fnok116 : FnOk 116 Tryz.f116 := ⟨Tryz.func116, by kernel_rfl, by kernel_rfl⟩
theorem parok116 : ParOk 116 Tryz.f116 := Nat.le_of_ble_eq_true (by kernel_rfl)
theorem fnok117 : FnOk 117 Tryz.f117 := ⟨Tryz.func117, by kernel_rfl, by kernel_rfl⟩
theorem parok117 : ParOk 117 Tryz.f117 := Nat.le_of_ble_eq_true (by kernel_rfl)
theorem fnok118 : FnOk 118 Tryz.f118 := ⟨Tryz.func118, by kernel_rfl, by kernel_rfl⟩
theorem parok118 : ParOk 118 Tryz.f118 := Nat.le_of_ble_eq_true (by kernel_rfl)
theorem fnok119 : FnOk 119 Tryz.f119 := ⟨Tryz.func119, by kernel_rfl, by kernel_rfl⟩
theorem parok119 : ParOk 119 Tryz.f119 := Nat.le_of_ble_eq_true (by kernel_rfl)
theorem fnok120 : FnOk 120 Tryz.f120 := ⟨Tryz.func120, by kernel_rfl, by kernel_rfl⟩
theorem parok120 : ParOk 120 Tryz.f120 := Nat.le_of_ble_eq_true (by kernel_rfl)
theorem fnok121 : FnOk 121 Tryz.f121 := ⟨Tryz.func121, by kernel_rfl, by kernel_rfl⟩
theorem parok121 : ParOk 121 Tryz.f121 := Nat.le_of_ble_eq_true (by kernel_rfl)
theorem fnok122 : FnOk 122 Tryz.f122 := ⟨Tryz.func122, by kernel_rfl, by kernel_rfl⟩
theorem parok122 : ParOk 122 Tryz.f122 := Nat.le_of_ble_eq_true (by kernel_rfl)
theorem fnok123 : FnOk 123 Tryz.f123 := ⟨Tryz.func123, by kernel_rfl, by kernel_rfl⟩
theorem parok123 : ParOk 123 Tryz.f123 := Nat.le_of_ble_eq_true (by kernel_rfl)
theorem fnok124 : FnOk 124 Tryz.f124 := ⟨Tryz.func124, by kernel_rfl, by kernel_rfl⟩
theorem parok124 : ParOk 124 Tryz.f124 := Nat.le_of_ble_eq_true (by kernel_rfl)
theorem fnok125 : FnOk 125 Tryz.f125 := ⟨Tryz.func125, by kernel_rfl, by kernel_rfl⟩
theorem parok125 : ParOk 125 Tryz.f125 := Nat.le_of_ble_eq_true (by kernel_rfl)
theorem fnok126 : FnOk 126 Tryz.f126 := ⟨Tryz.func126, by kernel_rfl, by kernel_rfl⟩
theorem parok126 : ParOk 126 Tryz.f126 := Nat.le_of_ble_eq_true (by kernel_rfl)
theorem fnok127 : FnOk 127 Tryz.f127 := ⟨Tryz.func127, by kernel_rfl, by kernel_rfl⟩
theorem parok127 : ParOk 127 Tryz.f127 := Nat.le_of_ble_eq_true (by kernel_rfl)
theorem fnok129 : FnOk 129 Tryz.f129 := ⟨Tryz.func129, by kernel_rfl, by kernel_rfl⟩
theorem parok129 : ParOk 129 Tryz.f129 := Nat.le_of_ble_eq_true (by kernel_rfl)
theorem fnok130 : FnOk 130 Tryz.f130 := ⟨Tryz.func130, by kernel_rfl, by kernel_rfl⟩
theorem parok130 : ParOk 130 Tryz.f130 := Nat.le_of_ble_eq_true (by kernel_rfl)
theorem fnok134 : FnOk 134 Tryz.f134 := ⟨Tryz.func134, by kernel_rfl, by kernel_rfl⟩
theorem parok134 : ParOk 134 Tryz.f134 := Nat.le_of_ble_eq_true (by kernel_rfl)
theorem fnok135 : FnOk 135 Tryz.f135 := ⟨Tryz.func135, by kernel_rfl, by kernel_rfl⟩
theorem parok135 : ParOk 135 Tryz.f135 := Nat.le_of_ble_eq_true (by kernel_rfl)
theorem fnok136 : FnOk 136 Tryz.f136 := ⟨Tryz.func136, by kernel_rfl, by kernel_rfl⟩
theorem parok136 : ParOk 136 Tryz.f136 := Nat.le_of_ble_eq_true (by kernel_rfl)
theorem fnok137 : FnOk 137 Tryz.f137 := ⟨Tryz.func137, by kernel_rfl, by kernel_rfl⟩
theorem parok137 : ParOk 137 Tryz.f137 := Nat.le_of_ble_eq_true (by kernel_rfl)
theorem fnok138 : FnOk 138 Tryz.f138 := ⟨Tryz.func138, by kernel_rfl, by kernel_rfl⟩
theorem parok138 : ParOk 138 Tryz.f138 := Nat.le_of_ble_eq_true (by kernel_rfl)
theorem fnok139 : FnOk 139 Tryz.f139 := ⟨Tryz.func139, by kernel_rfl, by kernel_rfl⟩
theorem parok139 : ParOk 139 Tryz.f139 := Nat.le_of_ble_eq_true (by kernel_rfl)
theorem fnok140 : FnOk 140 Tryz.f140 := ⟨Tryz.func140, by kernel_rfl, by kernel_rfl⟩
theorem parok140 : ParOk 140 Tryz.f140 := Nat.le_of_ble_eq_true (by kernel_rfl)
theorem fnok141 : FnOk 141 Tryz.f141 := ⟨Tryz.func141, by kernel_rfl, by kernel_rfl⟩
theorem parok141 : ParOk 141 Tryz.f141 := Nat.le_of_ble_eq_true (by kernel_rfl)
theorem fnok142 : FnOk 142 Tryz.f142 := ⟨Tryz.func142, by kernel_rfl, by kernel_rfl⟩
theorem parok142 : ParOk 142 Tryz.f142 := Nat.le_of_ble_eq_true (by kernel_rfl)
theorem fnok143 : FnOk 143 Tryz.f143 := ⟨Tryz.func143, by kernel_rfl, by kernel_rfl⟩
theorem parok143 : ParOk 143 Tryz.f143 := Nat.le_of_ble_eq_true (by kernel_rfl)
theorem fnok144 : FnOk 144 Tryz.f144 := ⟨Tryz.func144, by kernel_rfl, by kernel_rfl⟩
theorem parok144 : ParOk 144 Tryz.f144 := Nat.le_of_ble_eq_true (by kernel_rfl)
theorem fnok145 : FnOk 145 Tryz.f145 := ⟨Tryz.func145, by kernel_rfl, by kernel_rfl⟩
theorem parok145 : ParOk 145 Tryz.f145 := Nat.le_of_ble_eq_true (by kernel_rfl)
theorem fnok146 : FnOk 146 Tryz.f146 := ⟨Tryz.func146, by kernel_rfl, by kernel_rfl⟩
theorem parok146 : ParOk 146 Tryz.f146 := Nat.le_of_ble_eq_true (by kernel_rfl)
theorem fnok147 : FnOk 147 Tryz.f147 := ⟨Tryz.func147, by kernel_rfl, by kernel_rfl⟩
theorem parok147 : ParOk 147 Tryz.f147 := Nat.le_of_ble_eq_true (by kernel_rfl)
theorem fnok148 : FnOk 148 Tryz.f148 := ⟨Tryz.func148, by kernel_rfl, by kernel_rfl⟩
theorem parok148 : ParOk 148 Tryz.f148 := Nat.le_of_ble_eq_true (by kernel_rfl)
theorem fnok149 : FnOk 149 Tryz.f149 := ⟨Tryz.func149, by kernel_rfl, by kernel_rfl⟩
theorem parok149 : ParOk 149 Tryz.f149 := Nat.le_of_ble_eq_true (by kernel_rfl)
theorem fnok150 : FnOk 150 Tryz.f150 := ⟨Tryz.func150, by kernel_rfl, by kernel_rfl⟩
theorem parok150 : ParOk 150 Tryz.f150 := Nat.le_of_ble_eq_true (by kernel_rfl)
theorem fnok151 : FnOk 151 Tryz.f151 := ⟨Tryz.func151, by kernel_rfl, by kernel_rfl⟩
theorem parok151 : ParOk 151 Tryz.f151 := Nat.le_of_ble_eq_true (by kernel_rfl)
theorem fnok153 : FnOk 153 Tryz.f153 := ⟨Tryz.func153, by kernel_rfl, by kernel_rfl⟩
theorem parok153 : ParOk 153 Tryz.f153 := Nat.le_of_ble_eq_true (by kernel_rfl)
theorem fnok154 : FnOk 154 Tryz.f154 := ⟨Tryz.func154, by kernel_rfl, by kernel_rfl⟩
theorem parok154 : ParOk 154 Tryz.f154 := Nat.le_of_ble_eq_true (by kernel_rfl)
theorem fnok155 : FnOk 155 Tryz.f155 := ⟨Tryz.func155, by kernel_rfl, by kernel_rfl⟩
theorem parok155 : ParOk 155 Tryz.f155 := Nat.le_of_ble_eq_true (by kernel_rfl)
theorem fnok157 : FnOk 157 Tryz.f157 := ⟨Tryz.func157, by kernel_rfl, by kernel_rfl⟩
theorem parok157 : ParOk 157 Tryz.f157 := Nat.le_of_ble_eq_true (by kernel_rfl)
theorem fnok158 : FnOk 158 Tryz.f158 := ⟨Tryz.func158, by kernel_rfl, by kernel_rfl⟩
theorem parok158 : ParOk 158 Tryz.f158 := Nat.le_of_ble_eq_true (by kernel_rfl)
theorem fnok159 : FnOk 159 Tryz.f159 := ⟨Tryz.func159, by kernel_rfl, by kernel_rfl⟩
theorem parok159 : ParOk 159 Tryz.f159 := Nat.le_of_ble_eq_true (by kernel_rfl)
theorem fnok160 : FnOk 160 Tryz.f160 := ⟨Tryz.func160, by kernel_rfl, by kernel_rfl⟩
theorem parok160 : ParOk 160 Tryz.f160 := Nat.le_of_ble_eq_true (by kernel_rfl)
theorem fnok172 : FnOk 172 Tryz.f172 := ⟨Tryz.func172, by kernel_rfl, by kernel_rfl⟩
theorem parok172 : ParOk 172 Tryz.f172 := Nat.le_of_ble_eq_true (by kernel_rfl)
theorem fnok173 : FnOk 173 Tryz.f173 := ⟨Tryz.func173, by kernel_rfl, by kernel_rfl⟩
theorem parok173 : ParOk 173 Tryz.f173 := Nat.le_of_ble_eq_true (by kernel_rfl)
theorem fnok174 : FnOk 174 Tryz.f174 := ⟨Tryz.func174, by kernel_rfl, by kernel_rfl⟩
theorem parok174 : ParOk 174 Tryz.f174 := Nat.le_of_ble_eq_true (by kernel_rfl)
theorem fnok176 : FnOk 176 Tryz.f176 := ⟨Tryz.func176, by kernel_rfl, by kernel_rfl⟩
theorem parok176 : ParOk 176 Tryz.f176 := Nat.le_of_ble_eq_true (by kernel_rfl)
theorem fnok177 : FnOk 177 Tryz.f177 := ⟨Tryz.func177, by kernel_rfl, by kernel_rfl⟩
theorem parok177 : ParOk 177 Tryz.f177 := Nat.le_of_ble_eq_true (by kernel_rfl)
theorem fnok178 : FnOk 178 Tryz.f178 := ⟨Tryz.func178, by kernel_rfl, by kernel_rfl⟩
theorem parok178 : ParOk 178 Tryz.f178 := Nat.le_of_ble_eq_true (by kernel_rfl)
theorem fnok179 : FnOk 179 Tryz.f179 := ⟨Tryz.func179, by kernel_rfl, by kernel_rfl⟩
theorem parok179 : ParOk 179 Tryz.f179 := Nat.le_of_ble_eq_true (by kernel_rfl)
theorem fnok180 : FnOk 180 Tryz.f180 := ⟨Tryz.func180, by kernel_rfl, by kernel_rfl⟩
theorem parok180 : ParOk 180 Tryz.f180 := Nat.le_of_ble_eq_true (by kernel_rfl)
theorem fnok181 : FnOk 181 Tryz.f181 := ⟨Tryz.func181, by kernel_rfl, by kernel_rfl⟩
theorem parok181 : ParOk 181 Tryz.f181 := Nat.le_of_ble_eq_true (by kernel_rfl)
theorem fnok183 : FnOk 183 Tryz.f183 := ⟨Tryz.func183, by kernel_rfl, by kernel_rfl⟩
theorem parok183 : ParOk 183 Tryz.f183 := Nat.le_of_ble_eq_true (by kernel_rfl)
theorem fnok184 : FnOk 184 Tryz.f184 := ⟨Tryz.func184, by kernel_rfl, by kernel_rfl⟩
theorem parok184 : ParOk 184 Tryz.f184 := Nat.le_of_ble_eq_true (by kernel_rfl)
theorem fnok185 : FnOk 185 Tryz.f185 := ⟨Tryz.func185, by kernel_rfl, by kernel_rfl⟩
theorem parok185 : ParOk 185 Tryz.f185 := Nat.le_of_ble_eq_true (by kernel_rfl)
theorem fnok186 : FnOk 186 Tryz.f186 := ⟨Tryz.func186, by kernel_rfl, by kernel_rfl⟩
theorem parok186 : ParOk 186 Tryz.f186 := Nat.le_of_ble_eq_true (by kernel_rfl)
theorem fnok197 : FnOk 197 Tryz.f197 := ⟨Tryz.func197, by kernel_rfl, by kernel_rfl⟩
theorem parok197 : ParOk 197 Tryz.f197 := Nat.le_of_ble_eq_true (by kernel_rfl)
theorem fnok198 : FnOk 198 Tryz.f198 := ⟨Tryz.func198, by kernel_rfl, by kernel_rfl⟩
theorem parok198 : ParOk 198 Tryz.f198 := Nat.le_of_ble_eq_true (by kernel_rfl)
theorem fnok199 : FnOk 199 Tryz.f199 := ⟨Tryz.func199, by kernel_rfl, by kernel_rfl⟩
theorem parok199 : ParOk 199 Tryz.f199 := Nat.le_of_ble_eq_true (by kernel_rfl)
theorem fnok200 : FnOk 200 Tryz.f200 := ⟨Tryz.func200, by kernel_rfl, by kernel_rfl⟩
theorem parok200 : ParOk 200 Tryz.f200 := Nat.le_of_ble_eq_true (by kernel_rfl)
theorem fnok201 : FnOk 201 Tryz.f201 := ⟨Tryz.func201, by kernel_rfl, by kernel_rfl⟩
theorem parok201 : ParOk 201 Tryz.f201 := Nat.le_of_ble_eq_true (by kernel_rfl)
theorem fnok202 : FnOk 202 Tryz.f202 := ⟨Tryz.func202, by kernel_rfl, by kernel_rfl⟩
theorem parok202 : ParOk 202 Tryz.f202 := Nat.le_of_ble_eq_true (by kernel_rfl)
theorem fnok213 : FnOk 213 Tryz.f213 := ⟨Tryz.func213, by kernel_rfl, by kernel_rfl⟩
theorem parok213 : ParOk 213 Tryz.f213 := Nat.le_of_ble_eq_true (by kernel_rfl)
theorem fnok214 : FnOk 214 Tryz.f214 := ⟨Tryz.func214, by kernel_rfl, by kernel_rfl⟩
theorem parok214 : ParOk 214 Tryz.f214 := Nat.le_of_ble_eq_true (by kernel_rfl)
theorem fns_ok : ∀ f fn, look fns f = some fn → FnOk f fn := look_all (Q := FnOk) (l := fns) (all_cons fnok3 (all_cons fnok4 (all_cons fnok5 (all_cons fnok6 (all_cons fnok7 (all_cons fnok8 (all_cons fnok9 (all_cons fnok10 (all_cons fnok11 (all_cons fnok12 (all_cons fnok13 (all_cons fnok14 (all_cons fnok15 (all_cons fnok16 (all_cons fnok17 (all_cons fnok18 (all_cons fnok20 (all_cons fnok21 (all_cons fnok22 (all_cons fnok23 (all_cons fnok24 (all_cons fnok25 (all_cons fnok26 (all_cons fnok27 (all_cons fnok28 (all_cons fnok29 (all_cons fnok30 (all_cons fnok31 (all_cons fnok32 (all_cons fnok33 (all_cons fnok34 (all_cons fnok35 (all_cons fnok36 (all_cons fnok37 (all_cons fnok38 (all_cons fnok39 (all_cons fnok40 (all_cons fnok41 (all_cons fnok42 (all_cons fnok43 (all_cons fnok44 (all_cons fnok45 (all_cons fnok49 (all_cons fnok51 (all_cons fnok52 (all_cons fnok53 (all_cons fnok54 (all_cons fnok55 (all_cons fnok56 (all_cons fnok57 (all_cons fnok58 (all_cons fnok59 (all_cons fnok60 (all_cons fnok61 (all_cons fnok62 (all_cons fnok63 (all_cons fnok64 (all_cons fnok65 (all_cons fnok66 (all_cons fnok67 (all_cons fnok68 (all_cons fnok69 (all_cons fnok70 (all_cons fnok71 (all_cons fnok72 (all_cons fnok73 (all_cons fnok76 (all_cons fnok78 (all_cons fnok79 (all_cons fnok80 (all_cons fnok81 (all_cons fnok82 (all_cons fnok83 (all_cons fnok84 (all_cons fnok85 (all_cons fnok86 (all_cons fnok87 (all_cons fnok88 (all_cons fnok89 (all_cons fnok90 (all_cons fnok92 (all_cons fnok93 (all_cons fnok94 (all_cons fnok95 (all_cons fnok96 (all_cons fnok97 (all_cons fnok98 (all_cons fnok100 (all_cons fnok101 (all_cons fnok102 (all_cons fnok103 (all_cons fnok104 (all_cons fnok105 (all_cons fnok106 (all_cons fnok107 (all_cons fnok108 (all_cons fnok109 (all_cons fnok110 (all_cons fnok111 (all_cons fnok112 (all_cons fnok113 (all_cons fnok114 (all_cons fnok115 (all_cons fnok116 (all_cons fnok117 (all_cons fnok118 (all_cons fnok119 (all_cons fnok120 (all_cons fnok121 (all_cons fnok122 (all_cons fnok123 (all_cons fnok124 (all_cons fnok125 (all_cons fnok126 (all_cons fnok127 (all_cons fnok129 (all_cons fnok130 (all_cons fnok134 (all_cons fnok135 (all_cons fnok136 (all_cons fnok137 (all_cons fnok138 (all_cons fnok139 (all_cons fnok140 (all_cons fnok141 (all_cons fnok142 (all_cons fnok143 (all_cons fnok144 (all_cons fnok145 (all_cons fnok146 (all_cons fnok147 (all_cons fnok148 (all_cons fnok149 (all_cons fnok150 (all_cons fnok151 (all_cons fnok153 (all_cons fnok154 (all_cons fnok155 (all_cons fnok157 (all_cons fnok158 (all_cons fnok159 (all_cons fnok160 (all_cons fnok172 (all_cons fnok173 (all_cons fnok174 (all_cons fnok176 (all_cons fnok177 (all_cons fnok178 (all_cons fnok179 (all_cons fnok180 (all_cons fnok181 (all_cons fnok183 (all_cons fnok184 (all_cons fnok185 (all_cons fnok186 (all_cons fnok197 (all_cons fnok198 (all_cons fnok199 (all_cons fnok200 (all_cons fnok201 (all_cons fnok202 (all_cons fnok213 (all_cons fnok214 (all_cons fnok19 (all_cons fnok46 (all_cons fnok47 (all_cons fnok48 (all_cons fnok50 (all_cons fnok74 (all_cons fnok75 (all_cons fnok77 (all_cons fnok91 all_nil))))))))))))))))))))))))))))))))))))))))))))))))))))))))))))))))))))))))))))))))))))))))))))))))))))))))))))))))))))))))))))))))))))))))))))))))))))))))))))))))))))))))))))
theorem ctx_ok : CtxOk Tryz.prog CT := ⟨tis_ok, fns_ok, by kernel_rfl, inv_keeps⟩
theorem pars_ok : ∀ i fn, look fns i = some fn → ParOk i fn := look_all (Q := ParOk) (l := fns) (all_cons parok3 (all_cons parok4 (all_cons parok5 (all_cons parok6 (all_cons parok7 (all_cons parok8 (all_cons parok9 (all_cons parok10 (all_cons parok11 (all_cons parok12 (all_cons parok13 (all_cons parok14 (all_cons parok15 (all_cons parok16 (all_cons parok17 (all_cons parok18 (all_cons parok20 (all_cons parok21 (all_cons parok22 (all_cons parok23 (all_cons parok24 (all_cons parok25 (all_cons parok26 (all_cons parok27 (all_cons parok28 (all_cons parok29 (all_cons parok30 (all_cons parok31 (all_cons parok32 (all_cons parok33 (all_cons parok34 (all_cons parok35 (all_cons parok36 (all_cons parok37 (all_cons parok38 (all_cons parok39 (all_cons parok40 (all_cons parok41 (all_cons parok42 (all_cons parok43 (all_cons parok44 (all_cons parok45 (all_cons parok49 (all_cons parok51 (all_cons parok52 (all_cons parok53 (all_cons parok54 (all_cons parok55 (all_cons parok56 (all_cons parok57 (all_cons parok58 (all_cons parok59 (all_cons parok60 (all_cons parok61 (all_cons parok62 (all_cons parok63 (all_cons parok64 (all_cons parok65 (all_cons parok66 (all_cons parok67 (all_cons parok68 (all_cons parok69 (all_cons parok70 (all_cons parok71 (all_cons parok72 (all_cons parok73 (all_cons parok76 (all_cons parok78 (all_cons parok79 (all_cons parok80 (all_cons parok81 (all_cons parok82 (all_cons parok83 (all_cons parok84 (all_cons parok85 (all_cons parok86 (all_cons parok87 (all_cons parok88 (all_cons parok89 (all_cons parok90 (all_cons parok92 (all_cons parok93 (all_cons parok94 (all_cons parok95 (all_cons parok96 (all_cons parok97 (all_cons parok98 (all_cons parok100 (all_cons parok101 (all_cons parok102 (all_cons parok103 (all_cons parok104 (all_cons parok105 (all_cons parok106 (all_cons parok107 (all_cons parok108 (all_cons parok109 (all_cons parok110 (all_cons parok111 (all_cons parok112 (all_cons parok113 (all_cons parok114 (all_cons parok115 (all_cons parok116 (all_cons parok117 (all_cons parok118 (all_cons parok119 (all_cons parok120 (all_cons parok121 (all_cons parok122 (all_cons parok123 (all_cons parok124 (all_cons parok125 (all_cons parok126 (all_cons parok127 (all_cons parok129 (all_cons parok130 (all_cons parok134 (all_cons parok135 (all_cons parok136 (all_cons parok137 (all_cons parok138 (all_cons parok139 (all_cons parok140 (all_cons parok141 (all_cons parok142 (all_cons parok143 (all_cons parok144 (all_cons parok145 (all_cons parok146 (all_cons parok147 (all_cons parok148 (all_cons parok149 (all_cons parok150 (all_cons parok151 (all_cons parok153 (all_cons parok154 (all_cons parok155 (all_cons parok157 (all_cons parok158 (all_cons parok159 (all_cons parok160 (all_cons parok172 (all_cons parok173 (all_cons parok174 (all_cons parok176 (all_cons parok177 (all_cons parok178 (all_cons parok179 (all_cons parok180 (all_cons parok181 (all_cons parok183 (all_cons parok184 (all_cons parok185 (all_cons parok186 (all_cons parok197 (all_cons parok198 (all_cons parok199 (all_cons parok200 (all_cons parok201 (all_cons parok202 (all_cons parok213 (all_cons parok214 (all_cons parok19 (all_cons parok46 (all_cons parok47 (all_cons parok48 (all_cons parok50 (all_cons parok74 (all_cons parok75 (all_cons parok77 (all_cons parok91 all_nil))))))))))))))))))))))))))))))))))))))))))))))))))))))))))))))))))))))))))))))))))))))))))))))))))))))))))))))))))))))))))))))))))))))))))))))))))))))))))))))))))))))))))))
theorem sound (hE : ExtOk Tryz.prog CT) : ∀ k, SpecOk Tryz.prog (sem CT k) ∧ StageOk Tryz.prog (sem CT k) := sem_sound ctx_ok hE pars_ok
theorem ext_ok : ExtOk Tryz.prog CT := ext_of (l := extL) rfl (allE_cons (ext_at (Q.rtrim_ok inv_max)) (allE_cons (ext_at (Q.rgcd_ok inv_max)) (allE_cons (ext_at (Q.div_ok inv_max)) (allE_cons (ext_at (Q.rbits_ok inv_max)) (allE_cons (ext_at (Q.rof_ok inv_max)) (allE_cons (ext_at (cut_ok inv_max)) (allE_cons (ext_at (Q.small_ok inv_max)) (allE_cons (ext_at (Q.cmp_ok inv_max)) (allE_cons (ext_at (Q.trim_ok inv_max)) (allE_cons (ext_at (Q.rdiv_ok inv_max)) (allE_cons (ext_at (Q.rcmp_ok inv_max)) (allE_cons (ext_at (Q.rsmall_ok inv_max)) (allE_cons (ext_at (Q.gcd_ok inv_max)) (allE_cons (ext_at (Q.of_ok inv_max)) (allE_cons (ext_at (Q.rmul_ok inv_max)) (allE_cons (ext_at (Q.add_ok inv_max)) (allE_cons (ext_at (Q.mul_ok inv_max)) (allE_cons (ext_at (Q.pow_ok inv_max)) (allE_cons (ext_at (Q.radd_ok inv_max)) (allE_cons (ext_at (Q.rpow_ok inv_max)) allE_nil))))))))))))))))))))
theorem spec_ok (k : Nat) : SpecOk Tryz.prog (sem CT k) := (sound ext_ok k).1
end Go.Proofs.YtljapieoihecbaaGreatDoor.K
