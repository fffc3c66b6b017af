/- Part 8 of the proof: the machine, the tables and the pure laws that the last text joins. -/
import Derived.Test.YtpdfjgooaaailaaGreatDoorZ5
import Derived.Test.YtpdfjgooaaailaaGreatDoorZ7
import Derived.Test.YtpdfjgooaaailaaGreatDoorProg
set_option linter.unusedVariables false
set_option linter.unusedSimpArgs false
set_option maxRecDepth 100000
namespace Go.Proofs.YtpdfjgooaaailaaGreatDoor.K
open Go
abbrev TB9 := List UInt8
abbrev TV9 := Int × (Bool × TB9 × TB9) × TB9 × Bool × Int
abbrev TA9 := (List TV9) × Int × Bool × Int × Int
abbrev tR9 : Ty := .pair .bool (.pair .str .str)
abbrev tV9 : Ty := .pair (.int .i64) (.pair tR9 (.pair .str (.pair .bool (.int .i64))))
abbrev tA9 : Ty := .pair (.sl tV9) (.pair (.int .i64) (.pair .bool (.pair (.int .i64) (.int .i64))))
abbrev TN9 := Int × Int × Int × Int × (Bool × TB9 × TB9) × TB9 × Bool × (TB9 × Int × Int × Bool × Bool) × TB9 × Int × Int × Bool × Bool
abbrev TG9 := (List TN9) × List Int
abbrev tF9 : Ty := .pair .str (.pair (.int .i64) (.pair (.int .i64) (.pair .bool .bool)))
abbrev tN9 : Ty := .pair (.int .i64) (.pair (.int .i64) (.pair (.int .i64) (.pair (.int .i64) (.pair tR9 (.pair .str (.pair .bool (.pair tF9 tF9)))))))
abbrev tG9 : Ty := .pair (.sl tN9) (.sl (.int .i64))
abbrev tP9 : Ty := .pair (.int .i64) (.pair (.int .i64) (.pair (.int .i64) (.int .i64)))
noncomputable abbrev iF9 : List Shape := [.im (.sl tN9),.im (.sl (.int .i64))]
noncomputable abbrev nC9 (a : TN9) : List AV := [(.int .i64 a.1),(.int .i64 a.2.1),(.int .i64 a.2.2.1),(.int .i64 a.2.2.2.1),(.bool a.2.2.2.2.1.1),(.str a.2.2.2.2.1.2.1),(.str a.2.2.2.2.1.2.2),(.str a.2.2.2.2.2.1),(.bool a.2.2.2.2.2.2.1),(.str a.2.2.2.2.2.2.2.1.1),(.int .i64 a.2.2.2.2.2.2.2.1.2.1),(.int .i64 a.2.2.2.2.2.2.2.1.2.2.1),(.bool a.2.2.2.2.2.2.2.1.2.2.2.1),(.bool a.2.2.2.2.2.2.2.1.2.2.2.2),(.str a.2.2.2.2.2.2.2.2.1),(.int .i64 a.2.2.2.2.2.2.2.2.2.1),(.int .i64 a.2.2.2.2.2.2.2.2.2.2.1),(.bool a.2.2.2.2.2.2.2.2.2.2.2.1),(.bool a.2.2.2.2.2.2.2.2.2.2.2.2)]
abbrev kp9_3 : List Shape := [.keep,.keep,.keep]
abbrev kp9_7 : List Shape := [.keep,.keep,.keep,.keep,.keep,.keep,.keep]
abbrev kp9_8 : List Shape := [.keep,.keep,.keep,.keep,.keep,.keep,.keep,.keep]
abbrev kp9_15 : List Shape := [.keep,.keep,.keep,.keep,.keep,.keep,.keep,.keep,.keep,.keep,.keep,.keep,.keep,.keep,.keep]
def look {α : Type} : List (Nat × α) → Nat → Option α
  | [],_ => none
  | (u,v) :: l,t => match Nat.beq u t with
    | true => some v
    | false => look l t
def peq : Path → Path → Bool
  | [],[] => true
  | a :: p,b :: q => Nat.beq a b && peq p q
  | _,_ => false
def lookP : List (Nat × Path × Ann) → Nat → Path → Option Ann
  | [],_,_ => none
  | (g,u,v) :: l,f,t => match Nat.beq g f && peq u t with
    | true => some v
    | false => lookP l f t
def Inv (w : World) : Prop := MaxLen w
theorem inv_max : ∀ w,Inv w → MaxLen w := fun _ h => h
theorem inv_keeps : ∀ w w',Inv w → RowKit.Below w.heap.size w w' → Inv w' := maxLen_keeps
noncomputable def ti2 : TI := { sh := (.int .i64),size := 1,bytes := 8,zero := [(.int .i64 0)],ty := some (.int .i64),fl := [],eq := false }
noncomputable def ti3 : TI := { sh := (.int .i64),size := 1,bytes := 8,zero := [(.int .i64 0)],ty := some (.int .i64),fl := [],eq := false }
noncomputable def ti4 : TI := { sh := .bool,size := 1,bytes := 1,zero := [(.bool false)],ty := some .bool,fl := [],eq := false }
noncomputable def ti5 : TI := { sh := (.int .u8),size := 1,bytes := 1,zero := [(.int .u8 0)],ty := some (.int .u8),fl := [],eq := false }
noncomputable def ti9 : TI := { sh := .str,size := 1,bytes := 16,zero := [(.str [])],ty := some .str,fl := [],eq := false }
noncomputable def ti22 : TI := { sh := (.sl 9),size := 1,bytes := 24,zero := [.nilsl],ty := some (.sl .str),fl := [],eq := false }
noncomputable def ti28 : TI := { sh := (.st [(0,4),(1,9),(2,9)]),size := 3,bytes := 40,zero := [(.bool false),(.str []),(.str [])],ty := some tR9,fl := [(0,1,false),(1,1,false),(2,1,false)],eq := false }
noncomputable def ti30 : TI := { sh := (.st [(0,3),(1,28),(4,9),(5,4),(6,3)]),size := 7,bytes := 80,zero := [(.int .i64 0),(.bool false),(.str []),(.str []),(.str []),(.bool false),(.int .i64 0)],ty := some tV9,fl := [(0,1,false),(1,3,true),(4,1,false),(5,1,false),(6,1,false)],eq := true }
noncomputable def ti40 : TI := { sh := (.sl 30),size := 1,bytes := 24,zero := [.nilsl],ty := some (.sl tV9),fl := [],eq := false }
noncomputable def ti46 : TI := { sh := (.st [(0,40),(1,3)]),size := 2,bytes := 32,zero := [.nilsl,(.int .i64 0)],ty := some (.pair (.sl tV9) (.int .i64)),fl := [(0,1,false),(1,1,false)],eq := false }
noncomputable def ti48 : TI := { sh := (.arr 15 9),size := 15,bytes := 240,zero := [(.str []),(.str []),(.str []),(.str []),(.str []),(.str []),(.str []),(.str []),(.str []),(.str []),(.str []),(.str []),(.str []),(.str []),(.str [])],ty := none,fl := [],eq := false }
noncomputable def ti52 : TI := { sh := (.sl 62),size := 1,bytes := 24,zero := [.nilsl],ty := some (.sl tN9),fl := [],eq := false }
noncomputable def ti53 : TI := { sh := (.sl 3),size := 1,bytes := 24,zero := [.nilsl],ty := some (.sl (.int .i64)),fl := [],eq := false }
noncomputable def ti55 : TI := { sh := (.st [(0,52),(1,53)]),size := 2,bytes := 48,zero := [.nilsl,.nilsl],ty := some tG9,fl := [(0,1,false),(1,1,false)],eq := false }
noncomputable def ti56 : TI := { sh := (.int .i64),size := 1,bytes := 8,zero := [(.int .i64 0)],ty := some (.int .i64),fl := [],eq := false }
noncomputable def ti60 : TI := { sh := (.st [(0,9),(1,3),(2,3),(3,4),(4,4)]),size := 5,bytes := 40,zero := [(.str []),(.int .i64 0),(.int .i64 0),(.bool false),(.bool false)],ty := some tF9,fl := [(0,1,false),(1,1,false),(2,1,false),(3,1,false),(4,1,false)],eq := false }
noncomputable def ti62 : TI := { sh := (.st [(0,3),(1,3),(2,3),(3,3),(4,28),(7,9),(8,4),(9,60),(14,60)]),size := 19,bytes := 176,zero := [(.int .i64 0),(.int .i64 0),(.int .i64 0),(.int .i64 0),(.bool false),(.str []),(.str []),(.str []),(.bool false),(.str []),(.int .i64 0),(.int .i64 0),(.bool false),(.bool false),(.str []),(.int .i64 0),(.int .i64 0),(.bool false),(.bool false)],ty := some tN9,fl := [(0,1,false),(1,1,false),(2,1,false),(3,1,false),(4,3,true),(7,1,false),(8,1,false),(9,5,true),(14,5,true)],eq := false }
noncomputable def ti67 : TI := { sh := (.st [(0,4),(1,9)]),size := 2,bytes := 24,zero := [(.bool false),(.str [])],ty := some (.pair .bool .str),fl := [(0,1,false),(1,1,false)],eq := true }
noncomputable def ti71 : TI := { sh := (.sl 5),size := 1,bytes := 24,zero := [.nilsl],ty := some (.sl (.int .u8)),fl := [],eq := false }
noncomputable def ti77 : TI := { sh := (.sl 85),size := 1,bytes := 24,zero := [.nilsl],ty := some (.sl (.pair (.int .i64) (.pair .str (.pair (.int .i64) tR9)))),fl := [],eq := false }
noncomputable def ti80 : TI := { sh := (.ptr 82),size := 1,bytes := 8,zero := [(.cst (.pointer none))],ty := none,fl := [],eq := false }
noncomputable def ti82 : TI := { sh := (.st [(0,77),(1,55),(3,3),(4,3),(5,56)]),size := 6,bytes := 96,zero := [.nilsl,.nilsl,.nilsl,(.int .i64 0),(.int .i64 0),(.int .i64 0)],ty := some (.pair (.sl (.pair (.int .i64) (.pair .str (.pair (.int .i64) tR9)))) (.pair tG9 (.pair (.int .i64) (.pair (.int .i64) (.int .i64))))),fl := [(0,1,false),(1,2,true),(3,1,false),(4,1,false),(5,1,false)],eq := false }
noncomputable def ti85 : TI := { sh := (.st [(0,3),(1,9),(2,3),(3,28)]),size := 6,bytes := 72,zero := [(.int .i64 0),(.str []),(.int .i64 0),(.bool false),(.str []),(.str [])],ty := some (.pair (.int .i64) (.pair .str (.pair (.int .i64) tR9))),fl := [(0,1,false),(1,1,false),(2,1,false),(3,3,true)],eq := false }
noncomputable def ti91 : TI := { sh := (.int .u64),size := 1,bytes := 8,zero := [(.int .u64 0)],ty := some (.int .u64),fl := [],eq := false }
noncomputable def ti92 : TI := { sh := (.arr 8 9),size := 8,bytes := 128,zero := [(.str []),(.str []),(.str []),(.str []),(.str []),(.str []),(.str []),(.str [])],ty := none,fl := [],eq := false }
noncomputable def ti121 : TI := { sh := (.st [(0,3),(1,28),(4,9),(5,4),(6,3)]),size := 7,bytes := 80,zero := [(.int .i64 0),(.bool false),(.str []),(.str []),(.str []),(.bool false),(.int .i64 0)],ty := some tV9,fl := [(0,1,false),(1,3,true),(4,1,false),(5,1,false),(6,1,false)],eq := false }
noncomputable def ti139 : TI := { sh := (.ptr 141),size := 1,bytes := 8,zero := [(.cst (.pointer none))],ty := none,fl := [],eq := false }
noncomputable def ti141 : TI := { sh := (.st [(0,139),(1,71)]),size := 2,bytes := 32,zero := [(.cst (.pointer none)),.nilsl],ty := none,fl := [(0,1,false),(1,1,false)],eq := false }
noncomputable def ti177 : TI := { sh := (.ptr 5),size := 1,bytes := 8,zero := [(.cst (.pointer none))],ty := none,fl := [],eq := false }
noncomputable def ti227 : TI := { sh := (.st [(0,3),(1,3),(2,3),(3,3)]),size := 4,bytes := 32,zero := [(.int .i64 0),(.int .i64 0),(.int .i64 0),(.int .i64 0)],ty := some tP9,fl := [(0,1,false),(1,1,false),(2,1,false),(3,1,false)],eq := false }
noncomputable def tis : List (Nat × TI) := [(2,ti2),(3,ti3),(4,ti4),(5,ti5),(9,ti9),(22,ti22),(28,ti28),(30,ti30),(40,ti40),(46,ti46),(48,ti48),(52,ti52),(53,ti53),(55,ti55),(56,ti56),(60,ti60),(62,ti62),(67,ti67),(71,ti71),(77,ti77),(80,ti80),(82,ti82),(85,ti85),(91,ti91),(92,ti92),(121,ti121),(139,ti139),(141,ti141),(177,ti177),(227,ti227)]
noncomputable def fns : List (Nat × Func) := [(3,Tryz.f3),(4,Tryz.f4),(5,Tryz.f5),(6,Tryz.f6),(7,Tryz.f7),(8,Tryz.f8),(9,Tryz.f9),(10,Tryz.f10),(11,Tryz.f11),(12,Tryz.f12),(13,Tryz.f13),(14,Tryz.f14),(15,Tryz.f15),(16,Tryz.f16),(17,Tryz.f17),(18,Tryz.f18),(19,Tryz.f19),(20,Tryz.f20),(21,Tryz.f21),(22,Tryz.f22),(23,Tryz.f23),(25,Tryz.f25),(27,Tryz.f27),(28,Tryz.f28),(29,Tryz.f29),(30,Tryz.f30),(31,Tryz.f31),(32,Tryz.f32),(33,Tryz.f33),(34,Tryz.f34),(35,Tryz.f35),(37,Tryz.f37),(40,Tryz.f40),(42,Tryz.f42),(44,Tryz.f44),(46,Tryz.f46),(48,Tryz.f48),(50,Tryz.f50),(51,Tryz.f51),(54,Tryz.f54),(55,Tryz.f55),(56,Tryz.f56),(57,Tryz.f57),(58,Tryz.f58),(59,Tryz.f59),(60,Tryz.f60),(62,Tryz.f62),(65,Tryz.f65),(67,Tryz.f67),(69,Tryz.f69),(71,Tryz.f71),(73,Tryz.f73),(74,Tryz.f74),(75,Tryz.f75),(76,Tryz.f76),(77,Tryz.f77),(78,Tryz.f78),(79,Tryz.f79),(80,Tryz.f80),(81,Tryz.f81),(82,Tryz.f82),(83,Tryz.f83),(84,Tryz.f84),(85,Tryz.f85),(86,Tryz.f86),(87,Tryz.f87),(89,Tryz.f89),(92,Tryz.f92),(94,Tryz.f94),(96,Tryz.f96),(97,Tryz.f97),(98,Tryz.f98),(99,Tryz.f99),(100,Tryz.f100),(101,Tryz.f101),(102,Tryz.f102),(103,Tryz.f103),(104,Tryz.f104),(105,Tryz.f105),(106,Tryz.f106),(107,Tryz.f107),(108,Tryz.f108),(109,Tryz.f109),(110,Tryz.f110),(112,Tryz.f112),(113,Tryz.f113),(115,Tryz.f115),(116,Tryz.f116),(117,Tryz.f117),(118,Tryz.f118),(121,Tryz.f121),(126,Tryz.f126),(127,Tryz.f127),(128,Tryz.f128),(129,Tryz.f129),(130,Tryz.f130),(131,Tryz.f131),(134,Tryz.f134),(135,Tryz.f135),(136,Tryz.f136),(137,Tryz.f137),(138,Tryz.f138),(139,Tryz.f139),(145,Tryz.f145),(149,Tryz.f149),(150,Tryz.f150),(151,Tryz.f151),(153,Tryz.f153),(157,Tryz.f157),(162,Tryz.f162),(163,Tryz.f163),(164,Tryz.f164),(165,Tryz.f165),(166,Tryz.f166),(171,Tryz.f171),(174,Tryz.f174),(175,Tryz.f175),(176,Tryz.f176),(177,Tryz.f177),(178,Tryz.f178),(179,Tryz.f179),(183,Tryz.f183),(206,Tryz.f206),(213,Tryz.f213),(228,Tryz.f228),(232,Tryz.f232),(238,Tryz.f238),(239,Tryz.f239),(240,Tryz.f240),(241,Tryz.f241),(243,Tryz.f243),(244,Tryz.f244),(245,Tryz.f245),(246,Tryz.f246),(247,Tryz.f247),(248,Tryz.f248),(249,Tryz.f249),(250,Tryz.f250),(251,Tryz.f251),(24,Tryz.f24),(26,Tryz.f26),(36,Tryz.f36),(38,Tryz.f38),(39,Tryz.f39),(41,Tryz.f41),(43,Tryz.f43),(45,Tryz.f45),(47,Tryz.f47),(49,Tryz.f49),(52,Tryz.f52),(53,Tryz.f53),(61,Tryz.f61),(63,Tryz.f63),(64,Tryz.f64),(66,Tryz.f66),(68,Tryz.f68),(70,Tryz.f70),(72,Tryz.f72),(88,Tryz.f88),(90,Tryz.f90),(91,Tryz.f91),(111,Tryz.f111),(114,Tryz.f114),(123,Tryz.f123),(125,Tryz.f125),(132,Tryz.f132),(133,Tryz.f133),(140,Tryz.f140),(141,Tryz.f141),(142,Tryz.f142),(143,Tryz.f143),(172,Tryz.f172),(180,Tryz.f180),(181,Tryz.f181),(182,Tryz.f182),(214,Tryz.f214),(229,Tryz.f229),(231,Tryz.f231),(233,Tryz.f233),(236,Tryz.f236),(237,Tryz.f237),(242,Tryz.f242)]
def fidL : List (Nat × Nat) := []
def altL : List (Nat × List (Nat × Nat)) := []
def inls : List Nat := [24,26,36,38,39,41,43,45,47,49,52,53,61,63,64,66,68,70,72,88,90,91,111,114,123,125,132,133,140,141,142,143,172,180,181,182,214,229,231,233,236,237,242]
def rdL : List (Nat × List Bool) := [(89,[true,false])]
def ioL : List Nat := [35,40,42]
noncomputable def ptsL : List (Nat × List Ty) := [(3,[(.int .i64)]),(4,[.str,.str,(.int .i64)]),(5,[(.int .i64),.str]),(6,[]),(7,[]),(8,[]),(9,[.str]),(10,[(.int .i64)]),(11,[.str,(.sl tV9)]),(12,[.str]),(13,[(.int .i64)]),(14,[(.int .i64)]),(15,[.str]),(16,[.str]),(17,[]),(18,[tR9]),(19,[(.int .i64)]),(20,[(.int .i64)]),(21,[.str]),(22,[(.int .i64)]),(23,[]),(25,[.str]),(27,[]),(28,[.str]),(29,[(.int .u8)]),(30,[.str]),(31,[tR9]),(32,[(.pair .bool .str),(.pair .bool .str)]),(33,[(.int .i64)]),(34,[(.int .i64)]),(35,[(.pair (.sl tV9) (.int .i64))]),(37,[.str]),(40,[(.pair (.sl tV9) (.int .i64)),(.int .i64)]),(42,[(.pair (.sl tV9) (.int .i64))]),(44,[tR9,(.int .i64)]),(46,[.str,.str,(.int .i64)]),(48,[.str,(.int .i64)]),(50,[.str,.str]),(51,[.str]),(54,[tR9]),(55,[]),(56,[.bool,.str]),(57,[.str,.str]),(58,[.str,.str]),(59,[.str]),(60,[(.int .u64)]),(62,[tV9]),(65,[.str]),(67,[.bool]),(69,[.str,.str,(.int .i64)]),(71,[.str,.str,.str,(.int .i64)]),(73,[.str,(.int .i64),(.int .i64)]),(74,[tV9]),(75,[tR9]),(76,[tR9]),(77,[tR9,(.int .i64)]),(78,[tR9,(.int .i64)]),(79,[tR9]),(80,[.str,.str]),(81,[.str,(.int .i64)]),(82,[(.int .i64)]),(83,[.str]),(84,[.str]),(85,[tR9]),(86,[.str,.bool,.bool]),(87,[.str,(.int .i64)]),(89,[(.one (.sl (.pair (.int .i64) (.pair .str (.pair (.int .i64) tR9))))),(.int .i64)]),(92,[.str]),(94,[.str,.str]),(96,[tV9]),(97,[tV9]),(98,[.str,.str]),(99,[.str,.str,.str]),(100,[.str,.str]),(101,[(.sl .str),.str]),(102,[(.int .i64)]),(103,[.bool]),(104,[tR9]),(105,[(.pair .bool .str)]),(106,[tR9]),(107,[tR9]),(108,[.str,.str]),(109,[(.pair .bool .str)]),(110,[.bool,.str]),(112,[.str,.str]),(113,[.str,.str]),(115,[tR9]),(116,[tR9]),(117,[tR9]),(118,[.str]),(121,[.str,.str]),(126,[.str,.str]),(127,[.str,.str]),(128,[.str]),(129,[tR9]),(130,[tR9]),(131,[(.int .u8)]),(134,[(.int .u8)]),(135,[.str,(.int .i64)]),(136,[.str,(.int .i64)]),(137,[.str,(.int .i64)]),(138,[(.int .u8)]),(139,[.str]),(145,[tV9]),(149,[(.int .i64)]),(150,[(.pair .bool .str)]),(151,[.str]),(153,[.str]),(157,[(.pair .bool .str),(.pair .bool .str)]),(162,[.str,(.int .i64)]),(163,[(.int .u64)]),(164,[.str,.str]),(165,[.str]),(166,[(.int .u64),(.int .i64)]),(171,[.str,.str]),(174,[.str,.str]),(175,[.str]),(176,[.str]),(177,[tR9]),(178,[.str]),(179,[.str,.str]),(183,[tN9]),(206,[.str,(.int .u64)]),(213,[.str]),(228,[.str]),(232,[.str]),(238,[(.int .u8)]),(239,[(.int .u8)]),(240,[.str]),(241,[.str]),(243,[tP9]),(244,[.str]),(245,[(.int .i64),(.int .i64)]),(246,[tP9]),(247,[.str]),(248,[(.int .i64),(.int .i64)]),(249,[.str]),(250,[.str]),(251,[.str])]
noncomputable def rtsL : List (Nat × List Ty) := [(3,[.bool]),(4,[.bool]),(5,[.bool]),(6,[(.sl .str)]),(7,[(.sl .str)]),(8,[.bool]),(9,[.bool]),(10,[tV9]),(11,[tV9]),(12,[tV9]),(13,[.str]),(14,[.str]),(15,[.bool]),(16,[.bool]),(17,[.bool]),(18,[tV9]),(19,[tV9]),(20,[tR9]),(21,[(.int .i64),(.int .i64),.bool]),(22,[tV9]),(23,[tV9]),(25,[tV9]),(27,[(.sl .str)]),(28,[(.int .i64)]),(29,[.bool]),(30,[tG9,(.int .i64),(.int .i64)]),(31,[tR9]),(32,[tR9,(.int .i64)]),(33,[(.pair .bool .str)]),(34,[.str]),(35,[(.pair (.sl tV9) (.int .i64)),.str]),(37,[tV9]),(40,[(.pair (.sl tV9) (.int .i64)),(.int .i64)]),(42,[(.pair (.sl tV9) (.int .i64)),tR9]),(44,[tV9]),(46,[tV9]),(48,[tV9]),(50,[tV9]),(51,[(.sl (.pair (.int .i64) (.pair .str (.pair (.int .i64) tR9)))),(.int .i64),(.int .i64)]),(54,[.bool]),(55,[tR9]),(56,[(.pair .bool .str)]),(57,[.str]),(58,[.str]),(59,[(.int .i64)]),(60,[.str]),(62,[.str,(.int .i64)]),(65,[.bool]),(67,[tV9]),(69,[tV9]),(71,[.str]),(73,[.str,.str,.str,.bool]),(74,[tR9,(.int .i64)]),(75,[(.int .i64),.bool]),(76,[tR9]),(77,[tR9,(.int .i64)]),(78,[tV9]),(79,[.str]),(80,[.str,.str,.bool]),(81,[.str]),(82,[tV9]),(83,[.str]),(84,[tR9,(.int .i64)]),(85,[tV9]),(86,[.str]),(87,[(.pair (.int .i64) (.pair .str (.pair (.int .i64) tR9))),(.int .i64),(.int .i64)]),(89,[.bool]),(92,[.str]),(94,[.str,.str,(.int .i64)]),(96,[(.int .i64)]),(97,[.str]),(98,[(.int .i64)]),(99,[.str]),(100,[(.own .str)]),(101,[.str]),(102,[tR9]),(103,[(.int .i64)]),(104,[.bool]),(105,[(.int .i64),.bool]),(106,[(.pair .bool .str)]),(107,[tR9]),(108,[.str,.str,(.int .i64)]),(109,[tR9,(.int .i64)]),(110,[(.pair .bool .str)]),(112,[(.int .i64)]),(113,[.str]),(115,[tR9]),(116,[(.int .i64),.bool]),(117,[.str,.bool]),(118,[.str]),(121,[.bool]),(126,[.str,.bool]),(127,[tR9,(.int .i64)]),(128,[tR9,(.int .i64)]),(129,[tR9]),(130,[.bool]),(131,[.bool]),(134,[.bool]),(135,[(.pair (.int .i64) (.pair .str (.pair (.int .i64) tR9))),(.int .i64),(.int .i64)]),(136,[(.pair (.int .i64) (.pair .str (.pair (.int .i64) tR9))),(.int .i64),(.int .i64)]),(137,[(.pair (.int .i64) (.pair .str (.pair (.int .i64) tR9))),(.int .i64),(.int .i64)]),(138,[.bool]),(139,[(.int .i64),(.int .i64)]),(145,[.bool]),(149,[(.pair .bool .str)]),(150,[(.pair .bool .str)]),(151,[(.int .u64),.bool]),(153,[.str]),(157,[tR9,(.int .i64)]),(162,[.str,(.int .i64)]),(163,[.str]),(164,[.str]),(165,[(.int .i64),(.int .i64)]),(166,[.str]),(171,[.bool]),(174,[.str,.bool]),(175,[.str,(.int .i64)]),(176,[.bool]),(177,[tR9]),(178,[.bool]),(179,[.str]),(183,[(.int .i64)]),(206,[(.int .i64)]),(213,[.bool]),(228,[(.int .i64),.bool]),(232,[.bool]),(238,[.bool]),(239,[.bool]),(240,[.str]),(241,[.bool]),(243,[tP9,(.int .i64)]),(244,[tF9,(.int .i64)]),(245,[.bool]),(246,[(.int .i64)]),(247,[(.int .i64),(.int .i64),(.int .i64)]),(248,[.bool]),(249,[.str,.str]),(250,[(.int .i64),.bool]),(251,[(.int .i64),.bool])]
noncomputable def annL : List (Nat × List (Nat × Path × Ann)) := [
  (3,[(3,[1,0,1,1,1],{ live := [(0,.keep),(3,.im (.sl .str)),(4,.im (.sl .str)),(21,.keep)],toks := [] })]),
  (4,[(4,[1,0,1],{ live := [(0,.keep),(1,.keep),(2,.keep),(39,.keep)],toks := [] }),
    (4,[1,0,1,1,1,1,1,1],{ live := [(0,.keep),(1,.keep),(2,.keep),(77,.keep)],toks := [] })]),
  (9,[(9,[0,1,0,1,1],{ live := [(0,.keep),(3,.keep)],toks := [] }),
    (9,[1,0,0,1,0,0,1,0,1,1],{ live := [(0,.keep),(3,.keep),(22,.keep)],toks := [] })]),
  (11,[(11,[1000002,0,1,1,1,1],{ live := [(4,.keep),(8,.keep)],toks := [] }),
    (11,[1000001,0,1,1,1,1,1,1],{ live := [(4,.keep)],toks := [] }),
    (24,[0,0,1,0,1,0,1,0,1],{ live := [(1,.keep),(5,.keep)],toks := [(544,[.im (.sl tV9),.keep]),(2490448,[.keep]),(64,kp9_7)] }),
    (24,[1000002,0,0,1,1,1,1,1,0,1,0,1],{ live := [],toks := [] })]),
  (13,[(13,[1000000,0,1],{ live := [(0,.keep)],toks := [] }),
    (13,[1,0,1,1],{ live := [(0,.keep),(3,.keep),(10,.keep)],toks := [(48,kp9_15)] })]),
  (14,[(14,[1,0,1],{ live := [(0,.keep),(8,.keep)],toks := [] })]),
  (16,[(16,[1,0,1],{ live := [(0,.keep),(16,.keep)],toks := [] }),
    (16,[0,1,0,1,1],{ live := [(0,.keep),(3,.keep)],toks := [] }),
    (16,[1,0,0,1,0,0,1,0,1,1],{ live := [(0,.keep),(3,.keep),(39,.keep)],toks := [] })]),
  (19,[(19,[1,0,1],{ live := [(0,.keep),(2,.keep),(8,.keep)],toks := [(32,kp9_7)] }),
    (19,[1,1],{ live := [(0,.keep),(2,.keep)],toks := [(32,kp9_7)] })]),
  (21,[(21,[1,0,1,0,1],{ live := [(5,.keep),(6,.keep)],toks := [] }),
    (21,[1,1,1,0,1,0,1],{ live := [(5,.keep),(15,.keep)],toks := [] }),
    (21,[1,1,1,1,1,0,1,0,1],{ live := [(5,.keep),(19,.keep)],toks := [] })]),
  (22,[(22,[1,1],{ live := [(0,.keep),(2,.keep)],toks := [(32,kp9_7)] })]),
  (28,[(28,[0,0,1,1],{ live := [(0,.keep),(3,.keep)],toks := [] }),
    (28,[1,0,0,0,0,1,1],{ live := [(0,.keep),(3,.keep),(19,.keep)],toks := [] })]),
  (32,[(32,[1,0,1,1,1,1,1,1,1],{ live := [(4,.keep),(6,.keep),(7,.keep),(9,.keep),(10,.keep),(45,.keep)],toks := [(64,kp9_3),(96,[.keep,.keep]),(112,[.keep,.keep])] })]),
  (34,[(34,[1000000,0,1],{ live := [(0,.keep)],toks := [] }),
    (34,[1,0,1,1],{ live := [(0,.keep),(3,.keep),(10,.keep)],toks := [(48,kp9_8)] })]),
  (35,[(35,[1000001,0,1],{ live := [(0,.keep)],toks := [] }),
    (35,[1000002,0,1,1],{ live := [(3,.keep)],toks := [] })]),
  (40,[(40,[1000001,0,1,1],{ live := [(0,.keep)],toks := [] }),
    (40,[1000002,0,1,1,1],{ live := [(0,.keep),(5,.keep)],toks := [] }),
    (40,[1000001,0,1,0,1,1,1,1,1],{ live := [(7,.keep)],toks := [] }),
    (40,[1,0,1,1,1,1,1],{ live := [(0,.keep),(7,.keep),(40,.keep)],toks := [(2251799813685248,[.im (.sl tV9),.keep])] }),
    (40,[1,1,1,1],{ live := [(0,.keep),(5,.keep)],toks := [(2251799813685248,[.im (.sl tV9),.keep]),(80,kp9_3)] })]),
  (42,[(42,[1000001,0,1],{ live := [(0,.keep),(2,.keep)],toks := [] }),
    (42,[1000002,0,1,1],{ live := [(2,.keep),(3,.keep)],toks := [] }),
    (42,[1,1,1],{ live := [(2,.keep),(3,.keep)],toks := [(32,kp9_3),(48,kp9_3),(2251799813685248,[.im (.sl tV9),.keep])] })]),
  (44,[(44,[1,0,1],{ live := [(1,.keep),(2,.keep),(4,.keep),(16,.keep)],toks := [(32,kp9_3),(64,kp9_7)] })]),
  (54,[(54,[1,0,1],{ live := [(1,.keep),(33,.keep)],toks := [(16,kp9_3)] })]),
  (65,[(65,[0,1,0,1],{ live := [(0,.keep),(6,.im (.sl (.int .u8))),(7,.keep),(8,.keep)],toks := [] }),
    (65,[1,1,0,0,1,1,0,0,1,0,1],{ live := [(0,.keep),(6,.im (.sl (.int .u8))),(7,.keep),(8,.keep),(17,.keep)],toks := [] })]),
  (69,[(69,[1,0,1],{ live := [(0,.keep),(1,.keep),(2,.keep),(6,.keep),(16,.keep)],toks := [(96,kp9_7)] })]),
  (73,[(73,[1,0,1],{ live := [(0,.keep),(1,.keep),(2,.keep),(17,.keep)],toks := [] })]),
  (77,[(77,[1000003,0,1,1],{ live := [(4,.keep)],toks := [] }),
    (114,[1,0,1],{ live := [(0,.keep),(2,.keep),(4,.keep),(6,.keep),(19,.keep)],toks := [(720960,kp9_3),(720992,kp9_3),(64,kp9_3)] }),
    (114,[1000003,0,0,1,1,1,1,1,1,1,1,1],{ live := [(2,.keep),(4,.keep),(6,.keep),(8,.keep),(12,.keep)],toks := [] }),
    (114,[1,1,1,1,1,1,1],{ live := [(0,.keep),(2,.keep),(4,.keep),(6,.keep),(8,.keep),(10,.keep),(11,.keep)],toks := [(720960,kp9_3),(720992,kp9_3),(64,kp9_3)] }),
    (114,[1,1,1,1,1,1,1,1,1,1],{ live := [(2,.keep),(4,.keep),(6,.keep),(8,.keep),(12,.keep)],toks := [(720960,kp9_3),(720992,kp9_3),(64,kp9_3)] })]),
  (79,[(79,[1,1,0,1,1,1,1],{ live := [(1,.keep),(3,.keep),(21,.keep)],toks := [(16,kp9_3)] }),
    (79,[1,1,1,1],{ live := [(1,.keep),(3,.keep)],toks := [(16,kp9_3)] })]),
  (83,[(83,[0,1,0,1,1],{ live := [(3,.own 1099511627776 .str),(7,.im (.sl .str)),(8,.keep),(9,.keep)],toks := [] }),
    (83,[1,1,1,0,0,1,0,1,1],{ live := [(3,.own 1099511627777 .str),(7,.im (.sl .str)),(8,.keep),(9,.keep)],toks := [] })]),
  (84,[(84,[1,1,1,1,1,1,1],{ live := [(2,.keep),(8,.keep),(9,.keep)],toks := [(32,kp9_3),(128,kp9_3)] }),
    (84,[1,0,1,1,1,1,1,1],{ live := [(2,.keep),(8,.keep),(9,.keep),(37,.keep)],toks := [(32,kp9_3),(128,kp9_3)] }),
    (84,[1,1,1,1,1,1],{ live := [(2,.keep),(4,.keep),(8,.keep),(9,.keep)],toks := [(32,kp9_3),(128,kp9_3)] })]),
  (85,[(85,[1,1],{ live := [(1,.keep),(2,.keep)],toks := [(16,kp9_3),(32,kp9_7)] })]),
  (86,[(86,[0,1,0,1,1],{ live := [(0,.keep),(1,.keep),(2,.keep),(7,.keep),(13,.keep),(14,.keep),(15,.keep)],toks := [(192,[])] }),
    (86,[1,1,1,0,0,1,0,1,1],{ live := [(0,.keep),(1,.keep),(2,.keep),(7,.keep),(13,.keep),(14,.keep),(15,.keep)],toks := [(192,[])] }),
    (86,[1,1,1,0,0,1,1,0,0,1,0,1,1],{ live := [(0,.keep),(1,.keep),(2,.keep),(7,.keep),(8,.keep),(9,.keep),(10,.keep),(13,.keep),(14,.keep),(15,.keep)],toks := [(192,[])] })]),
  (105,[(105,[1,0,1,1,1,1],{ live := [(4,.keep),(26,.keep)],toks := [] }),
    (105,[1,1,1,1],{ live := [(1,.keep),(4,.keep),(5,.keep)],toks := [(16,[.keep,.keep])] })]),
  (127,[(127,[1,0,0,0,0,0,0,0,0,0,0,1,1,1],{ live := [(4,.keep),(6,.keep),(7,.keep),(8,.keep),(9,.keep),(20,.keep)],toks := [(64,kp9_3)] }),
    (127,[1,0,0,1,1,1],{ live := [(4,.keep),(6,.keep),(7,.keep),(8,.keep)],toks := [(64,kp9_3)] })]),
  (128,[(128,[1,0,0,1,1],{ live := [(0,.keep),(2,.keep),(4,.keep),(5,.keep),(15,.keep)],toks := [(32,kp9_3)] })]),
  (129,[(129,[1,1,1],{ live := [(1,.keep),(2,.keep)],toks := [(16,kp9_3),(32,kp9_3)] })]),
  (130,[(130,[1,0,0,1],{ live := [(1,.keep),(3,.keep)],toks := [(16,kp9_3)] })]),
  (157,[(157,[1,0,1,1,1,1],{ live := [(2,.keep),(3,.keep),(4,.keep),(6,.keep),(7,.keep),(44,.keep)],toks := [(32,[.keep,.keep]),(48,[.keep,.keep]),(64,kp9_3)] }),
    (157,[1,1,1,1],{ live := [(2,.keep),(3,.keep),(4,.keep),(6,.keep),(7,.keep)],toks := [(32,[.keep,.keep]),(48,[.keep,.keep]),(64,kp9_3)] })]),
  (175,[(175,[1,0,0,1],{ live := [(0,.keep),(10,.keep)],toks := [] }),
    (175,[0,0,1,1,1],{ live := [(0,.keep),(4,.keep)],toks := [] }),
    (175,[0,1,0,1,1,0,1,0,0,0,1,1,1],{ live := [(0,.keep),(4,.keep),(5,.keep),(6,.keep),(7,.keep),(30,.im (.sl (.int .u8))),(31,.keep),(32,.keep)],toks := [] })]),
  (176,[(176,[0,1,0,1],{ live := [(0,.keep),(6,.im (.sl (.int .u8))),(7,.keep),(8,.keep)],toks := [] }),
    (176,[1,1,0,0,1,1,0,0,1,0,1],{ live := [(0,.keep),(6,.im (.sl (.int .u8))),(7,.keep),(8,.keep),(17,.keep)],toks := [] })]),
  (206,[(206,[0,0,1,1],{ live := [(0,.keep),(1,.keep),(5,.keep)],toks := [] }),
    (206,[1,0,1,0,1,0,0,0,1,1],{ live := [(1,.keep),(5,.keep),(6,.keep),(24,.keep)],toks := [] })]),
  (213,[(213,[0,1,0,1],{ live := [(6,.im (.sl (.int .u8))),(7,.keep),(8,.keep)],toks := [] }),
    (213,[1,1,0,0,1,1,0,0,1,0,1],{ live := [(6,.im (.sl (.int .u8))),(7,.keep),(8,.keep),(17,.keep)],toks := [] })])]
def closedL : List Nat := [17,8,30,51,87,89,134,135,136,137,138,139,121,183,228,232,238,239,240,241,243,244,245,246,247,248,249,250,251]
noncomputable def closedAnn : List (Nat × Path × Ann) := [(16,[0,1,0,1,1],{ live := [],toks := [],all := true }),(9,[0,1,0,1,1],{ live := [],toks := [],all := true }),(28,[0,0,1,1],{ live := [],toks := [],all := true }),(24,[0,0,1,0,1,0,1,0,1],{ live := [],toks := [],all := true }),(51,[0,1,1,1,1],{ live := [],toks := [],all := true }),(87,[2,1],{ live := [],toks := [],all := true }),(88,[0,1,0,1,1,1,1],{ live := [],toks := [],all := true }),(132,[0,0,1,1],{ live := [],toks := [],all := true }),(136,[2,1],{ live := [],toks := [],all := true }),(137,[0,1,0,1,1],{ live := [],toks := [],all := true }),(142,[0,1,0,1,1],{ live := [],toks := [],all := true }),(65,[0,1,0,1],{ live := [],toks := [],all := true }),(83,[0,1,0,1,1],{ live := [],toks := [],all := true }),(86,[0,1,0,1,1],{ live := [],toks := [],all := true }),(181,[0,0,1,1],{ live := [],toks := [],all := true }),(176,[0,1,0,1],{ live := [],toks := [],all := true }),(175,[0,0,1,1,1],{ live := [],toks := [],all := true }),(175,[0,1,0,1,1,0,1,0,0,0,1,1,1],{ live := [],toks := [],all := true }),(213,[0,1,0,1],{ live := [],toks := [],all := true }),(228,[0,1,0,1],{ live := [],toks := [],all := true }),(206,[0,0,1,1],{ live := [],toks := [],all := true }),(232,[0,1,0,1,1],{ live := [],toks := [],all := true }),(240,[0,1,0,1,1],{ live := [],toks := [],all := true }),(241,[0,0,1,1],{ live := [],toks := [],all := true }),(241,[0,1,0,1,1,1],{ live := [],toks := [],all := true }),(237,[0,0,1,1],{ live := [],toks := [],all := true }),(244,[0,0,1,1,1,1,1],{ live := [],toks := [],all := true }),(249,[0,0,1,1],{ live := [],toks := [],all := true }),(250,[0,1,0,1,1,1],{ live := [],toks := [],all := true }),(251,[0,1,0,1,1,1],{ live := [],toks := [],all := true })]
def hasF (n : Nat) : List AV → Bool
  | [] => false
  | .func f _ _ :: l => Nat.beq f n || hasF n l
  | _ :: l => hasF n l
def altOf : List (Nat × Nat) → List AV → Disp
  | [],_ => .no
  | (n,i) :: l,vs => match vs with
    | .agg cs :: _ => (match hasF n cs with
      | true => .spec i
      | false => altOf l vs)
    | _ => .no
noncomputable def extL : List ((j : Nat) × (den (tyL ((look ptsL j).getD [])) → Option (den (tyL ((look rtsL j).getD []))))) := [⟨15,H.namedF⟩,⟨57,Q.gcdQ⟩,⟨59,Q.bitsQ⟩,⟨60,Q.ofQ⟩,⟨80,cutF⟩,⟨81,repeatF⟩,⟨92,Q.trimQ⟩,⟨94,Q.divQ⟩,⟨98,indexF⟩,⟨99,(fun _ => none)⟩,⟨100,splitF⟩,⟨101,joinF⟩,⟨108,Q.divQ⟩,⟨112,Q.cmpQ⟩,⟨113,Q.addQ⟩,⟨118,Q.decQ⟩,⟨151,Q.smallQ⟩,⟨153,Q.trimQ⟩,⟨162,Q.powQ⟩,⟨163,Q.ofQ⟩,⟨164,Q.mulQ⟩,⟨179,Q.gcdQ⟩]
noncomputable def CT : Ctx where
  ti := look tis
  fn := look fns
  disp := fun _ f vs => match inls.elem f with
    | true => .inl
    | false => match look altL f with
      | some l => altOf l vs
      | none => .spec f
  fid := fun i => match look fidL i with
    | some f => f
    | none => i
  pts := fun i => (look ptsL i).getD []
  rts := fun i => (look rtsL i).getD []
  ext := lookE extL
  ann := fun i f p => match look annL i with
    | some l => match lookP l f p with
      | some a => some a
      | none => lookP closedAnn f p
    | none => lookP closedAnn f p
  inv := Inv
  io := fun i => ioL.elem i
  rd := fun i => (look rdL i).getD []
noncomputable section
abbrev w21_FtextRules (x0 x1 : TB9) (x2 : Int) : Option (Bool) := (top CT).callF 4 (x0,x1,x2)
abbrev w21_FtextRules_1 (a1 a2 : TB9) (a3 : Int) (a4 : Bool) : Option (Bool) := (top CT).stage 4 [] 4 [1,0,1] { env := [(0,(.str a1)),(1,(.str a2)),(2,(.int .i64 a3)),(39,(.bool a4))],heap := [],salt := 0 }
abbrev w21_FtextRules_2 (a1 a2 : TB9) (a3 : Int) (a4 : Bool) : Option (Bool) := (top CT).stage 4 [] 4 [1,0,1,1,1,1,1,1] { env := [(0,(.str a1)),(1,(.str a2)),(2,(.int .i64 a3)),(77,(.bool a4))],heap := [],salt := 0 }
abbrev w21_known : Option (Bool) := (top CT).callF 8 ()
abbrev r08_Plain (x0 : TB9) : Option (Bool) := (top CT).callF 9 (x0)
abbrev r08_Plain_1 (a1 : TB9) (a2 : Int) : Option (Bool) := (top CT).stage 9 [] 9 [0,1,0,1,1] { env := [(0,(.str a1)),(3,(.int .i64 a2))],heap := [],salt := 0 }
abbrev r08_Plain_2 (a1 : TB9) (a2 : Int) (a3 : Bool) : Option (Bool) := (top CT).stage 9 [] 9 [1,0,0,1,0,0,1,0,1,1] { env := [(0,(.str a1)),(3,(.int .i64 a2)),(22,(.bool a3))],heap := [],salt := 0 }
abbrev w21_num (x0 : Int) : Option (TV9) := (top CT).callF 10 (x0)
abbrev ftext_Do (x0 : TB9) (x1 : List (TV9)) : Option (TV9) := (top CT).callF 11 (x0,x1)
abbrev ftext_Do_1 (a1 : TV9) (a2 : (List (TV9)) × Int) : Option (TV9) := (top CT).stage 11 [{ f := 11,path := [0,1,1,1,1],op := 2,rest := [3],env := [(4,(.ptr 64 0)),(8,(.ptr 544 0))],salt := 0 }] 24 [] { env := [(0,(.str [76,69,70,84])),(1,(.ptr 544 0))],heap := [(64,.box [(.int .i64 a1.1),(.bool a1.2.1.1),(.str a1.2.1.2.1),(.str a1.2.1.2.2),(.str a1.2.2.1),(.bool a1.2.2.2.1),(.int .i64 a1.2.2.2.2)]),(544,.box [(.sl tV9 a2.1 false),(.int .i64 a2.2)])],salt := 38 }
abbrev ftext_Do_2 (a1 : TV9) (a2 : (List (TV9)) × Int) : Option (TV9) := (top CT).stage 11 [{ f := 11,path := [0,1,1,1,1],op := 2,rest := [3],env := [(4,(.ptr 64 0)),(8,(.ptr 544 0))],salt := 0 }] 24 [] { env := [(0,(.str [82,73,71,72,84])),(1,(.ptr 544 0))],heap := [(64,.box [(.int .i64 a1.1),(.bool a1.2.1.1),(.str a1.2.1.2.1),(.str a1.2.1.2.2),(.str a1.2.2.1),(.bool a1.2.2.2.1),(.int .i64 a1.2.2.2.2)]),(544,.box [(.sl tV9 a2.1 false),(.int .i64 a2.2)])],salt := 38 }
abbrev ftext_Do_3 (a1 : TV9) (a2 : (List (TV9)) × Int) : Option (TV9) := (top CT).stage 11 [{ f := 11,path := [0,1,1,1,1],op := 2,rest := [3],env := [(4,(.ptr 64 0)),(8,(.ptr 544 0))],salt := 0 }] 24 [] { env := [(0,(.str [67,79,78,67,65,84])),(1,(.ptr 544 0))],heap := [(64,.box [(.int .i64 a1.1),(.bool a1.2.1.1),(.str a1.2.1.2.1),(.str a1.2.1.2.2),(.str a1.2.2.1),(.bool a1.2.2.2.1),(.int .i64 a1.2.2.2.2)]),(544,.box [(.sl tV9 a2.1 false),(.int .i64 a2.2)])],salt := 38 }
abbrev ftext_Do_4 (a1 : TV9) (a2 : (List (TV9)) × Int) : Option (TV9) := (top CT).stage 11 [{ f := 11,path := [0,1,1,1,1],op := 2,rest := [3],env := [(4,(.ptr 64 0)),(8,(.ptr 544 0))],salt := 0 }] 24 [] { env := [(0,(.str [85,80,80,69,82])),(1,(.ptr 544 0))],heap := [(64,.box [(.int .i64 a1.1),(.bool a1.2.1.1),(.str a1.2.1.2.1),(.str a1.2.1.2.2),(.str a1.2.2.1),(.bool a1.2.2.2.1),(.int .i64 a1.2.2.2.2)]),(544,.box [(.sl tV9 a2.1 false),(.int .i64 a2.2)])],salt := 38 }
abbrev ftext_Do_5 (a1 : TV9) (a2 : (List (TV9)) × Int) : Option (TV9) := (top CT).stage 11 [{ f := 11,path := [0,1,1,1,1],op := 2,rest := [3],env := [(4,(.ptr 64 0)),(8,(.ptr 544 0))],salt := 0 }] 24 [] { env := [(0,(.str [76,79,87,69,82])),(1,(.ptr 544 0))],heap := [(64,.box [(.int .i64 a1.1),(.bool a1.2.1.1),(.str a1.2.1.2.1),(.str a1.2.1.2.2),(.str a1.2.2.1),(.bool a1.2.2.2.1),(.int .i64 a1.2.2.2.2)]),(544,.box [(.sl tV9 a2.1 false),(.int .i64 a2.2)])],salt := 38 }
abbrev ftext_Do_6 (a1 : TV9) (a2 : (List (TV9)) × Int) : Option (TV9) := (top CT).stage 11 [{ f := 11,path := [0,1,1,1,1],op := 2,rest := [3],env := [(4,(.ptr 64 0)),(8,(.ptr 544 0))],salt := 0 }] 24 [] { env := [(0,(.str [82,69,80,76,65,67,69])),(1,(.ptr 544 0))],heap := [(64,.box [(.int .i64 a1.1),(.bool a1.2.1.1),(.str a1.2.1.2.1),(.str a1.2.1.2.2),(.str a1.2.2.1),(.bool a1.2.2.2.1),(.int .i64 a1.2.2.2.2)]),(544,.box [(.sl tV9 a2.1 false),(.int .i64 a2.2)])],salt := 38 }
abbrev ftext_Do_7 (a1 : TV9) (a2 : (List (TV9)) × Int) : Option (TV9) := (top CT).stage 11 [{ f := 11,path := [0,1,1,1,1],op := 2,rest := [3],env := [(4,(.ptr 64 0)),(8,(.ptr 544 0))],salt := 0 }] 24 [] { env := [(0,(.str [77,73,68])),(1,(.ptr 544 0))],heap := [(64,.box [(.int .i64 a1.1),(.bool a1.2.1.1),(.str a1.2.1.2.1),(.str a1.2.1.2.2),(.str a1.2.2.1),(.bool a1.2.2.2.1),(.int .i64 a1.2.2.2.2)]),(544,.box [(.sl tV9 a2.1 false),(.int .i64 a2.2)])],salt := 38 }
abbrev ftext_Do_8 (a1 : TV9) (a2 : (List (TV9)) × Int) (a3 : TB9) (a4 : Int) : Option (TV9) := (top CT).stage 11 [{ f := 11,path := [0,1,1,1,1,1,1],op := 1,rest := [2],env := [(4,(.ptr 64 0))],salt := 0 }] 45 [] { env := [(0,(.ptr 2490400 0)),(1,(.ptr 2490512 0)),(2,(.ptr 2490528 0))],heap := [(64,.box [(.int .i64 a1.1),(.bool a1.2.1.1),(.str a1.2.1.2.1),(.str a1.2.1.2.2),(.str a1.2.2.1),(.bool a1.2.2.2.1),(.int .i64 a1.2.2.2.2)]),(544,.box [(.sl tV9 a2.1 false),(.int .i64 a2.2)]),(2490400,.box [(.str [76,69,70,84])]),(2490512,.box [(.str a3)]),(2490528,.box [(.int .i64 a4)])],salt := 50 }
abbrev ftext_Do_9 (a1 : TV9) (a2 : (List (TV9)) × Int) (a3 : TB9) (a4 : Int) : Option (TV9) := (top CT).stage 11 [{ f := 11,path := [0,1,1,1,1,1,1],op := 1,rest := [2],env := [(4,(.ptr 64 0))],salt := 0 }] 45 [] { env := [(0,(.ptr 2490400 0)),(1,(.ptr 2490512 0)),(2,(.ptr 2490528 0))],heap := [(64,.box [(.int .i64 a1.1),(.bool a1.2.1.1),(.str a1.2.1.2.1),(.str a1.2.1.2.2),(.str a1.2.2.1),(.bool a1.2.2.2.1),(.int .i64 a1.2.2.2.2)]),(544,.box [(.sl tV9 a2.1 false),(.int .i64 a2.2)]),(2490400,.box [(.str [82,73,71,72,84])]),(2490512,.box [(.str a3)]),(2490528,.box [(.int .i64 a4)])],salt := 50 }
abbrev ftext_Do_10 (a1 : (List (TV9)) × Int) (a2 : TV9) : Option (TV9) := (top CT).stage 11 [{ f := 11,path := [0,1,1,1,1],op := 2,rest := [3],env := [(4,(.ptr 64 0)),(8,(.ptr 544 0))],salt := 0 }] 24 [0,0,1,0,1,0,1,0,1] { env := [(1,(.ptr 544 0)),(5,(.ptr 2490448 0))],heap := [(544,.box [(.sl tV9 a1.1 false),(.int .i64 a1.2)]),(2490448,.box [(.str ([] : TB9))]),(64,.box [(.int .i64 a2.1),(.bool a2.2.1.1),(.str a2.2.1.2.1),(.str a2.2.1.2.2),(.str a2.2.2.1),(.bool a2.2.2.2.1),(.int .i64 a2.2.2.2.2)])],salt := 38 }
abbrev ftext_Do_11 (a1 : TV9) (a2 : (List (TV9)) × Int) (a3 : TB9) : Option (TV9) := (top CT).stage 11 [{ f := 11,path := [0,1,1,1,1,1,1],op := 1,rest := [2],env := [(4,(.ptr 64 0))],salt := 0 }] 49 [] { env := [(0,(.ptr 2490400 0)),(1,(.ptr 2490512 0))],heap := [(64,.box [(.int .i64 a1.1),(.bool a1.2.1.1),(.str a1.2.1.2.1),(.str a1.2.1.2.2),(.str a1.2.2.1),(.bool a1.2.2.2.1),(.int .i64 a1.2.2.2.2)]),(544,.box [(.sl tV9 a2.1 false),(.int .i64 a2.2)]),(2490400,.box [(.str [85,80,80,69,82])]),(2490512,.box [(.str a3)])],salt := 50 }
abbrev ftext_Do_12 (a1 : TV9) (a2 : (List (TV9)) × Int) (a3 : TB9) : Option (TV9) := (top CT).stage 11 [{ f := 11,path := [0,1,1,1,1,1,1],op := 1,rest := [2],env := [(4,(.ptr 64 0))],salt := 0 }] 49 [] { env := [(0,(.ptr 2490400 0)),(1,(.ptr 2490512 0))],heap := [(64,.box [(.int .i64 a1.1),(.bool a1.2.1.1),(.str a1.2.1.2.1),(.str a1.2.1.2.2),(.str a1.2.2.1),(.bool a1.2.2.2.1),(.int .i64 a1.2.2.2.2)]),(544,.box [(.sl tV9 a2.1 false),(.int .i64 a2.2)]),(2490400,.box [(.str [76,79,87,69,82])]),(2490512,.box [(.str a3)])],salt := 50 }
abbrev ftext_Do_13 (a1 : TV9) (a2 : (List (TV9)) × Int) : Option (TV9) := (top CT).stage 11 [{ f := 24,path := [0,0,1,1,1,1,1,0,1,0,1],op := 2,rest := [3],env := [],salt := 38 },{ f := 11,path := [0,1,1,1,1],op := 2,rest := [3],env := [(4,(.ptr 64 0)),(8,(.ptr 544 0))],salt := 0 }] 39 [] { env := [(0,(.str [82,69,80,76,65,67,69])),(1,(.ptr 544 0))],heap := [(64,.box [(.int .i64 a1.1),(.bool a1.2.1.1),(.str a1.2.1.2.1),(.str a1.2.1.2.2),(.str a1.2.2.1),(.bool a1.2.2.2.1),(.int .i64 a1.2.2.2.2)]),(544,.box [(.sl tV9 a2.1 false),(.int .i64 a2.2)]),(2490400,.box [(.str [82,69,80,76,65,67,69])])],salt := 155687 }
abbrev ftext_Do_14 (a1 : TV9) (a2 : (List (TV9)) × Int) : Option (TV9) := (top CT).stage 11 [{ f := 24,path := [0,0,1,1,1,1,1,0,1,0,1],op := 2,rest := [3],env := [],salt := 38 },{ f := 11,path := [0,1,1,1,1],op := 2,rest := [3],env := [(4,(.ptr 64 0)),(8,(.ptr 544 0))],salt := 0 }] 39 [] { env := [(0,(.str [77,73,68])),(1,(.ptr 544 0))],heap := [(64,.box [(.int .i64 a1.1),(.bool a1.2.1.1),(.str a1.2.1.2.1),(.str a1.2.1.2.2),(.str a1.2.2.1),(.bool a1.2.2.2.1),(.int .i64 a1.2.2.2.2)]),(544,.box [(.sl tV9 a2.1 false),(.int .i64 a2.2)]),(2490400,.box [(.str [77,73,68])])],salt := 155687 }
abbrev ftext_Do_15 (a1 : (List (TV9)) × Int) (a2 : TB9) (a3 : TV9) : Option (TV9) := (top CT).stage 11 [{ f := 11,path := [0,1,1,1,1],op := 2,rest := [3],env := [(4,(.ptr 64 0)),(8,(.ptr 544 0))],salt := 0 }] 24 [0,0,1,0,1,0,1,0,1] { env := [(1,(.ptr 544 0)),(5,(.ptr 2490448 0))],heap := [(544,.box [(.sl tV9 a1.1 false),(.int .i64 a1.2)]),(2490448,.box [(.str a2)]),(64,.box [(.int .i64 a3.1),(.bool a3.2.1.1),(.str a3.2.1.2.1),(.str a3.2.1.2.2),(.str a3.2.2.1),(.bool a3.2.2.2.1),(.int .i64 a3.2.2.2.2)])],salt := 38 }
abbrev ftext_Do_16 (a1 : (List (TV9)) × Int) (a2 : TV9) : Option (TV9) := (top CT).stage 11 [{ f := 11,path := [0,1,1,1,1,1,1],op := 1,rest := [2],env := [(4,(.ptr 64 0))],salt := 0 }] 36 [] { env := [(0,(.ptr 2490448 0))],heap := [(544,.box [(.sl tV9 a1.1 false),(.int .i64 a1.2)]),(2490448,.box [(.str ([] : TB9))]),(64,.box [(.int .i64 a2.1),(.bool a2.2.1.1),(.str a2.2.1.2.1),(.str a2.2.1.2.2),(.str a2.2.2.1),(.bool a2.2.2.2.1),(.int .i64 a2.2.2.2.2)])],salt := 50 }
abbrev ftext_Do_17 (a1 : TV9) (a2 : (List (TV9)) × Int) (a3 : TB9) (a4 a5 : Int) (a6 : TB9) : Option (TV9) := (top CT).stage 11 [{ f := 11,path := [0,1,1,1,1,1,1],op := 1,rest := [2],env := [(4,(.ptr 64 0))],salt := 0 }] 72 [] { env := [(0,(.ptr 10203103312 0)),(1,(.ptr 10203103328 0)),(2,(.ptr 10203103344 0)),(3,(.ptr 10203103264 0)),(4,(.ptr 10203103360 0))],heap := [(64,.box [(.int .i64 a1.1),(.bool a1.2.1.1),(.str a1.2.1.2.1),(.str a1.2.1.2.2),(.str a1.2.2.1),(.bool a1.2.2.2.1),(.int .i64 a1.2.2.2.2)]),(544,.box [(.sl tV9 a2.1 false),(.int .i64 a2.2)]),(2490400,.box [(.str [82,69,80,76,65,67,69])]),(10203103264,.box [(.str [82,69,80,76,65,67,69])]),(10203103312,.box [(.str a3)]),(10203103328,.box [(.int .i64 a4)]),(10203103344,.box [(.int .i64 a5)]),(10203103360,.box [(.str a6)])],salt := 50 }
abbrev ftext_Do_18 (a1 : TV9) (a2 : (List (TV9)) × Int) (a3 : TB9) (a4 a5 : Int) : Option (TV9) := (top CT).stage 11 [{ f := 11,path := [0,1,1,1,1,1,1],op := 1,rest := [2],env := [(4,(.ptr 64 0))],salt := 0 }] 72 [] { env := [(0,(.ptr 10203103312 0)),(1,(.ptr 10203103328 0)),(2,(.ptr 10203103344 0)),(3,(.ptr 10203103264 0)),(4,(.ptr 10203103360 0))],heap := [(64,.box [(.int .i64 a1.1),(.bool a1.2.1.1),(.str a1.2.1.2.1),(.str a1.2.1.2.2),(.str a1.2.2.1),(.bool a1.2.2.2.1),(.int .i64 a1.2.2.2.2)]),(544,.box [(.sl tV9 a2.1 false),(.int .i64 a2.2)]),(2490400,.box [(.str [77,73,68])]),(10203103264,.box [(.str [77,73,68])]),(10203103312,.box [(.str a3)]),(10203103328,.box [(.int .i64 a4)]),(10203103344,.box [(.int .i64 a5)]),(10203103360,.box [(.str ([] : TB9))])],salt := 50 }
abbrev ftext_Do_19 (a1 : (List (TV9)) × Int) (a2 : TB9) (a3 : TV9) : Option (TV9) := (top CT).stage 11 [{ f := 11,path := [0,1,1,1,1,1,1],op := 1,rest := [2],env := [(4,(.ptr 64 0))],salt := 0 }] 36 [] { env := [(0,(.ptr 2490448 0))],heap := [(544,.box [(.sl tV9 a1.1 false),(.int .i64 a1.2)]),(2490448,.box [(.str a2)]),(64,.box [(.int .i64 a3.1),(.bool a3.2.1.1),(.str a3.2.1.2.1),(.str a3.2.1.2.2),(.str a3.2.2.1),(.bool a3.2.2.2.1),(.int .i64 a3.2.2.2.2)])],salt := 50 }
abbrev w21_text (x0 : TB9) : Option (TV9) := (top CT).callF 12 (x0)
abbrev r08_Num (x0 : Bool × TB9 × TB9) : Option (TV9) := (top CT).callF 18 (x0)
abbrev r08_Fault (x0 : Int) : Option (TV9) := (top CT).callF 19 (x0)
abbrev r08_Fault_1 (a1 : Int) (a2 : Bool) (a3 : TV9) : Option (TV9) := (top CT).stage 19 [] 19 [1,0,1] { env := [(0,(.int .i64 a1)),(2,(.ptr 32 0)),(8,(.bool a2))],heap := [(32,.box [(.int .i64 a3.1),(.bool a3.2.1.1),(.str a3.2.1.2.1),(.str a3.2.1.2.2),(.str a3.2.2.1),(.bool a3.2.2.2.1),(.int .i64 a3.2.2.2.2)])],salt := 0 }
abbrev r08_Fault_2 (a1 : Int) (a2 : TV9) : Option (TV9) := (top CT).stage 19 [] 19 [1,1] { env := [(0,(.int .i64 a1)),(2,(.ptr 32 0))],heap := [(32,.box [(.int .i64 a2.1),(.bool a2.2.1.1),(.str a2.2.1.2.1),(.str a2.2.1.2.2),(.str a2.2.2.1),(.bool a2.2.2.2.1),(.int .i64 a2.2.2.2.2)])],salt := 0 }
abbrev r05_Of (x0 : Int) : Option (Bool × TB9 × TB9) := (top CT).callF 20 (x0)
abbrev ftext_limits (x0 : TB9) : Option (Int × Int × Bool) := (top CT).callF 21 (x0)
abbrev value_Fault (x0 : Int) : Option (TV9) := (top CT).callF 22 (x0)
abbrev value_Fault_1 (a1 : Int) (a2 : TV9) : Option (TV9) := (top CT).stage 22 [] 22 [1,1] { env := [(0,(.int .i64 a1)),(2,(.ptr 32 0))],heap := [(32,.box [(.int .i64 a2.1),(.bool a2.2.1.1),(.str a2.2.1.2.1),(.str a2.2.1.2.2),(.str a2.2.2.1),(.bool a2.2.2.2.1),(.int .i64 a2.2.2.2.2)])],salt := 0 }
abbrev ftext_wrong : Option (TV9) := (top CT).callF 23 ()
abbrev r08_Text (x0 : TB9) : Option (TV9) := (top CT).callF 25 (x0)
abbrev r05_Well (x0 : Bool × TB9 × TB9) : Option (Bool × TB9 × TB9) := (top CT).callF 31 (x0)
abbrev r05_Make (x0 x1 : Bool × TB9) : Option ((Bool × TB9 × TB9) × Int) := (top CT).callF 32 (x0,x1)
abbrev r05_Make_1 (a1 a2 : TB9) (a3 : Bool) (a4 : Bool × TB9 × TB9) (a5 a6 : Bool × TB9) : Option ((Bool × TB9 × TB9) × Int) := (top CT).stage 32 [] 32 [1,0,1,1,1,1,1,1,1] { env := [(4,(.ptr 64 0)),(6,(.ptr 96 0)),(7,(.ptr 112 0)),(9,(.str a1)),(10,(.str a2)),(45,(.bool a3))],heap := [(64,.box [(.bool a4.1),(.str a4.2.1),(.str a4.2.2)]),(96,.box [(.bool a5.1),(.str a5.2)]),(112,.box [(.bool a6.1),(.str a6.2)])],salt := 0 }
abbrev r04_Of (x0 : Int) : Option (Bool × TB9) := (top CT).callF 33 (x0)
abbrev value_Name (x0 : Int) : Option (TB9) := (top CT).callF 34 (x0)
abbrev value_Name_1 (a1 : Int) : Option (TB9) := (top CT).stage 34 [{ f := 34,path := [0,1],op := 0,rest := [1,2],env := [(0,(.int .i64 a1))],salt := 0 }] 61 [] { env := [],heap := [],salt := 5 }
abbrev value_Name_2 (a1 : Int) (a2 : Bool) (a3 a4 a5 a6 a7 a8 a9 a10 : TB9) : Option (TB9) := (top CT).stage 34 [] 34 [1,0,1,1] { env := [(0,(.int .i64 a1)),(3,(.ptr 48 0)),(10,(.bool a2))],heap := [(48,.box [(.str a3),(.str a4),(.str a5),(.str a6),(.str a7),(.str a8),(.str a9),(.str a10)])],salt := 0 }
abbrev abacist_ftext_taker_text (x0 : (List (TV9)) × Int) : Option (((List (TV9)) × Int) × TB9) := (top CT).callF 35 (x0)
abbrev abacist_ftext_taker_text_1 (a1 : (List (TV9)) × Int) : Option (((List (TV9)) × Int) × TB9) := (top CT).stage 35 [{ f := 35,path := [0,1],op := 1,rest := [2,3,4,5,6,7],env := [(0,(.ptr 2251799813685248 0))],salt := 0 }] 63 [] { env := [(0,(.ptr 2251799813685248 0))],heap := [(2251799813685248,.box [(.sl tV9 a1.1 false),(.int .i64 a1.2)])],salt := 8 }
abbrev abacist_ftext_taker_text_2 (a1 : Int) (a2 : (List (TV9)) × Int) (a3 a4 : TV9) (a5 : TB9) : Option (((List (TV9)) × Int) × TB9) := (top CT).stage 35 [{ f := 35,path := [0,1,1],op := 2,rest := [],env := [(3,(.str a5))],salt := 0 }] 64 [] { env := [(0,(.ptr 2251799813685248 0)),(1,(.int .i64 a1))],heap := [(2251799813685248,.box [(.sl tV9 a2.1 false),(.int .i64 a2.2)]),(524320,.box [(.int .i64 a3.1),(.bool a3.2.1.1),(.str a3.2.1.2.1),(.str a3.2.1.2.2),(.str a3.2.2.1),(.bool a3.2.2.2.1),(.int .i64 a3.2.2.2.2)]),(524336,.box [(.int .i64 a4.1),(.bool a4.2.1.1),(.str a4.2.1.2.1),(.str a4.2.1.2.2),(.str a4.2.2.1),(.bool a4.2.2.2.1),(.int .i64 a4.2.2.2.2)])],salt := 14 }
abbrev value_Text (x0 : TB9) : Option (TV9) := (top CT).callF 37 (x0)
abbrev abacist_ftext_taker_count (x0 : (List (TV9)) × Int) (x1 : Int) : Option (((List (TV9)) × Int) × Int) := (top CT).callF 40 (x0,x1)
abbrev abacist_ftext_taker_count_1 (a1 : (List (TV9)) × Int) : Option (((List (TV9)) × Int) × Int) := (top CT).stage 40 [{ f := 40,path := [0,1,1],op := 1,rest := [2,3,4,5,6,7,8],env := [(0,(.ptr 2251799813685248 0))],salt := 0 }] 63 [] { env := [(0,(.ptr 2251799813685248 0))],heap := [(2251799813685248,.box [(.sl tV9 a1.1 false),(.int .i64 a1.2)])],salt := 19 }
abbrev abacist_ftext_taker_count_2 (a1 : Int) (a2 : (List (TV9)) × Int) (a3 a4 : TV9) (a5 : Bool × TB9 × TB9) : Option (((List (TV9)) × Int) × Int) := (top CT).stage 40 [{ f := 40,path := [0,1,1,1],op := 2,rest := [],env := [(0,(.ptr 2251799813685248 0)),(5,(.ptr 80 0))],salt := 0 }] 64 [] { env := [(0,(.ptr 2251799813685248 0)),(1,(.int .i64 a1))],heap := [(2251799813685248,.box [(.sl tV9 a2.1 false),(.int .i64 a2.2)]),(1245216,.box [(.int .i64 a3.1),(.bool a3.2.1.1),(.str a3.2.1.2.1),(.str a3.2.1.2.2),(.str a3.2.2.1),(.bool a3.2.2.2.1),(.int .i64 a3.2.2.2.2)]),(1245232,.box [(.int .i64 a4.1),(.bool a4.2.1.1),(.str a4.2.1.2.1),(.str a4.2.1.2.2),(.str a4.2.2.1),(.bool a4.2.2.2.1),(.int .i64 a4.2.2.2.2)]),(80,.box [(.bool a5.1),(.str a5.2.1),(.str a5.2.2)])],salt := 25 }
abbrev abacist_ftext_taker_count_3 (a1 : (List (TV9)) × Int) (a2 : Bool × TB9 × TB9) : Option (((List (TV9)) × Int) × Int) := (top CT).stage 40 [] 40 [1,1,1,1] { env := [(0,(.ptr 2251799813685248 0)),(5,(.ptr 80 0))],heap := [(2251799813685248,.box [(.sl tV9 a1.1 false),(.int .i64 a1.2)]),(80,.box [(.bool a2.1),(.str a2.2.1),(.str a2.2.2)])],salt := 0 }
abbrev abacist_ftext_taker_count_4 (a1 : Int) (a2 : Bool) (a3 : (List (TV9)) × Int) : Option (((List (TV9)) × Int) × Int) := (top CT).stage 40 [] 40 [1,0,1,1,1,1,1] { env := [(0,(.ptr 2251799813685248 0)),(7,(.int .i64 a1)),(40,(.bool a2))],heap := [(2251799813685248,.box [(.sl tV9 a3.1 false),(.int .i64 a3.2)])],salt := 0 }
abbrev abacist_ftext_taker_count_5 (a1 : Int) (a2 : (List (TV9)) × Int) (a3 : Int) : Option (((List (TV9)) × Int) × Int) := (top CT).stage 40 [{ f := 40,path := [0,1,0,1,1,1,1,1],op := 1,rest := [],env := [(7,(.int .i64 a3))],salt := 0 }] 64 [] { env := [(0,(.ptr 2251799813685248 0)),(1,(.int .i64 a1))],heap := [(2251799813685248,.box [(.sl tV9 a2.1 false),(.int .i64 a2.2)])],salt := 43 }
abbrev ftext_ends (x0 x1 : TB9) (x2 : Int) : Option (TV9) := (top CT).callF 46 (x0,x1,x2)
abbrev ftext_ofText (x0 x1 : TB9) : Option (TV9) := (top CT).callF 50 (x0,x1)
abbrev r05_Right (x0 : Bool × TB9 × TB9) : Option (Bool) := (top CT).callF 54 (x0)
abbrev r05_Right_1 (a1 : Bool) (a2 : Bool × TB9 × TB9) : Option (Bool) := (top CT).stage 54 [] 54 [1,0,1] { env := [(1,(.ptr 16 0)),(33,(.bool a1))],heap := [(16,.box [(.bool a2.1),(.str a2.2.1),(.str a2.2.2)])],salt := 0 }
abbrev r05_Zero : Option (Bool × TB9 × TB9) := (top CT).callF 55 ()
abbrev r04_Make (x0 : Bool) (x1 : TB9) : Option (Bool × TB9) := (top CT).callF 56 (x0,x1)
abbrev r02_Gcd (x0 x1 : TB9) : Option (TB9) := (top CT).callF 57 (x0,x1)
abbrev r02_Div (x0 x1 : TB9) : Option (TB9) := (top CT).callF 58 (x0,x1)
abbrev r01_Bits (x0 : TB9) : Option (Int) := (top CT).callF 59 (x0)
abbrev r01_Of (x0 : Int) : Option (TB9) := (top CT).callF 60 (x0)
abbrev coerce_Text (x0 : TV9) : Option (TB9 × Int) := (top CT).callF 62 (x0)
abbrev value_plain (x0 : TB9) : Option (Bool) := (top CT).callF 65 (x0)
abbrev value_plain_1 (a1 : TB9) (a2 : List Int) (a3 a4 : Int) : Option (Bool) := (top CT).stage 65 [] 65 [0,1,0,1] { env := [(0,(.str a1)),(6,(.sl (.int .u8) a2 false)),(7,(.int .i64 a3)),(8,(.int .i64 a4))],heap := [],salt := 0 }
abbrev value_plain_2 (a1 : TB9) (a2 : List Int) (a3 a4 : Int) (a5 : Bool) : Option (Bool) := (top CT).stage 65 [] 65 [1,1,0,0,1,1,0,0,1,0,1] { env := [(0,(.str a1)),(6,(.sl (.int .u8) a2 false)),(7,(.int .i64 a3)),(8,(.int .i64 a4)),(17,(.bool a5))],heap := [],salt := 0 }
abbrev value_Truth (x0 : Bool) : Option (TV9) := (top CT).callF 67 (x0)
abbrev ftext_piece (x0 : TB9) (x1 x2 : Int) : Option (TB9 × TB9 × TB9 × Bool) := (top CT).callF 73 (x0,x1,x2)
abbrev ftext_piece_1 (a1 : TB9) (a2 a3 : Int) (a4 : Bool) : Option (TB9 × TB9 × TB9 × Bool) := (top CT).stage 73 [] 73 [1,0,1] { env := [(0,(.str a1)),(1,(.int .i64 a2)),(2,(.int .i64 a3)),(17,(.bool a4))],heap := [],salt := 0 }
abbrev coerce_Num (x0 : TV9) : Option ((Bool × TB9 × TB9) × Int) := (top CT).callF 74 (x0)
abbrev round_Small (x0 : Bool × TB9 × TB9) : Option (Int × Bool) := (top CT).callF 75 (x0)
abbrev round_Trunc (x0 : Bool × TB9 × TB9) : Option (Bool × TB9 × TB9) := (top CT).callF 76 (x0)
abbrev numtext_Text (x0 : Bool × TB9 × TB9) : Option (TB9) := (top CT).callF 79 (x0)
abbrev numtext_Text_1 (a1 : TB9) (a2 : Bool × TB9 × TB9) : Option (TB9) := (top CT).stage 79 [] 79 [1,1,1,1] { env := [(1,(.ptr 16 0)),(3,(.str a1))],heap := [(16,.box [(.bool a2.1),(.str a2.2.1),(.str a2.2.2)])],salt := 0 }
abbrev numtext_Text_2 (a1 : TB9) (a2 : Bool) (a3 : Bool × TB9 × TB9) : Option (TB9) := (top CT).stage 79 [] 79 [1,1,0,1,1,1,1] { env := [(1,(.ptr 16 0)),(3,(.str a1)),(21,(.bool a2))],heap := [(16,.box [(.bool a3.1),(.str a3.2.1),(.str a3.2.2)])],salt := 0 }
abbrev strings_Cut (x0 x1 : TB9) : Option (TB9 × TB9 × Bool) := (top CT).callF 80 (x0,x1)
abbrev strings_Repeat (x0 : TB9) (x1 : Int) : Option (TB9) := (top CT).callF 81 (x0,x1)
abbrev ftext_count (x0 : Int) : Option (TV9) := (top CT).callF 82 (x0)
abbrev ftext_trimmed (x0 : TB9) : Option (TB9) := (top CT).callF 83 (x0)
abbrev numtext_Parse (x0 : TB9) : Option ((Bool × TB9 × TB9) × Int) := (top CT).callF 84 (x0)
abbrev numtext_Parse_1 (a1 : Bool) (a2 : Int) (a3 a4 : Bool × TB9 × TB9) : Option ((Bool × TB9 × TB9) × Int) := (top CT).stage 84 [] 84 [1,1,1,1,1,1] { env := [(2,(.ptr 32 0)),(4,(.bool a1)),(8,(.ptr 128 0)),(9,(.int .i64 a2))],heap := [(32,.box [(.bool a3.1),(.str a3.2.1),(.str a3.2.2)]),(128,.box [(.bool a4.1),(.str a4.2.1),(.str a4.2.2)])],salt := 0 }
abbrev numtext_Parse_2 (a1 : Int) (a2 : Bool) (a3 a4 : Bool × TB9 × TB9) : Option ((Bool × TB9 × TB9) × Int) := (top CT).stage 84 [] 84 [1,0,1,1,1,1,1,1] { env := [(2,(.ptr 32 0)),(8,(.ptr 128 0)),(9,(.int .i64 a1)),(37,(.bool a2))],heap := [(32,.box [(.bool a3.1),(.str a3.2.1),(.str a3.2.2)]),(128,.box [(.bool a4.1),(.str a4.2.1),(.str a4.2.2)])],salt := 0 }
abbrev numtext_Parse_3 (a1 : Int) (a2 a3 : Bool × TB9 × TB9) : Option ((Bool × TB9 × TB9) × Int) := (top CT).stage 84 [] 84 [1,1,1,1,1,1,1] { env := [(2,(.ptr 32 0)),(8,(.ptr 128 0)),(9,(.int .i64 a1))],heap := [(32,.box [(.bool a2.1),(.str a2.2.1),(.str a2.2.2)]),(128,.box [(.bool a3.1),(.str a3.2.1),(.str a3.2.2)])],salt := 0 }
abbrev value_Num (x0 : Bool × TB9 × TB9) : Option (TV9) := (top CT).callF 85 (x0)
abbrev value_Num_1 (a1 : Bool × TB9 × TB9) (a2 : TV9) : Option (TV9) := (top CT).stage 85 [] 85 [1,1] { env := [(1,(.ptr 16 0)),(2,(.ptr 32 0))],heap := [(16,.box [(.bool a1.1),(.str a1.2.1),(.str a1.2.2)]),(32,.box [(.int .i64 a2.1),(.bool a2.2.1.1),(.str a2.2.1.2.1),(.str a2.2.1.2.2),(.str a2.2.2.1),(.bool a2.2.2.2.1),(.int .i64 a2.2.2.2.2)])],salt := 0 }
abbrev ftext_cased (x0 : TB9) (x1 x2 : Bool) : Option (TB9) := (top CT).callF 86 (x0,x1,x2)
abbrev ftext_cased_1 (a1 : TB9) (a2 a3 : Bool) (a4 a5 : Int) (a6 : List Int) : Option (TB9) := (top CT).stage 86 [] 86 [0,1,0,1,1] { env := [(0,(.str a1)),(1,(.bool a2)),(2,(.bool a3)),(7,(.who 192 false)),(13,(.who 192 false)),(14,(.int .i64 a4)),(15,(.int .i64 a5))],heap := [(192,.arr (.int .u8) a6)],salt := 0 }
abbrev ftext_cased_2 (a1 : TB9) (a2 a3 : Bool) (a4 a5 : Int) (a6 : List Int) : Option (TB9) := (top CT).stage 86 [] 86 [1,1,1,0,0,1,0,1,1] { env := [(0,(.str a1)),(1,(.bool a2)),(2,(.bool a3)),(7,(.who 192 false)),(13,(.who 192 false)),(14,(.int .i64 a4)),(15,(.int .i64 a5))],heap := [(192,.arr (.int .u8) a6)],salt := 0 }
abbrev ftext_cased_3 (a1 : TB9) (a2 a3 : Bool) (a4 a5 : Int) (a6 : Bool) (a7 a8 : Int) (a9 : List Int) : Option (TB9) := (top CT).stage 86 [] 86 [1,1,1,0,0,1,1,0,0,1,0,1,1] { env := [(0,(.str a1)),(1,(.bool a2)),(2,(.bool a3)),(7,(.who 192 false)),(8,(.int .i64 a4)),(9,(.int .u8 a5)),(10,(.bool a6)),(13,(.who 192 false)),(14,(.int .i64 a7)),(15,(.int .i64 a8))],heap := [(192,.arr (.int .u8) a9)],salt := 0 }
abbrev r01_Trim (x0 : TB9) : Option (TB9) := (top CT).callF 92 (x0)
abbrev r02_DivMod (x0 x1 : TB9) : Option (TB9 × TB9 × Int) := (top CT).callF 94 (x0,x1)
abbrev coerce_cell_fault (x0 : TV9) : Option (Int) := (top CT).callF 96 (x0)
abbrev value_Show (x0 : TV9) : Option (TB9) := (top CT).callF 97 (x0)
abbrev strings_Index (x0 x1 : TB9) : Option (Int) := (top CT).callF 98 (x0,x1)
abbrev strings_Split (x0 x1 : TB9) : Option (List (TB9)) := (top CT).callF 100 (x0,x1)
abbrev strings_Join (x0 : List (TB9)) (x1 : TB9) : Option (TB9) := (top CT).callF 101 (x0,x1)
abbrev rat_Of (x0 : Int) : Option (Bool × TB9 × TB9) := (top CT).callF 102 (x0)
abbrev coerce_bit (x0 : Bool) : Option (Int) := (top CT).callF 103 (x0)
abbrev round_Whole (x0 : Bool × TB9 × TB9) : Option (Bool) := (top CT).callF 104 (x0)
abbrev whole_Small (x0 : Bool × TB9) : Option (Int × Bool) := (top CT).callF 105 (x0)
abbrev whole_Small_1 (a1 : Int) (a2 : Bool) (a3 : Bool × TB9) : Option (Int × Bool) := (top CT).stage 105 [] 105 [1,1,1,1] { env := [(1,(.ptr 16 0)),(4,(.int .u64 a1)),(5,(.bool a2))],heap := [(16,.box [(.bool a3.1),(.str a3.2)])],salt := 0 }
abbrev whole_Small_2 (a1 : Int) (a2 : Bool) : Option (Int × Bool) := (top CT).stage 105 [] 105 [1,0,1,1,1,1] { env := [(4,(.int .u64 a1)),(26,(.bool a2))],heap := [],salt := 0 }
abbrev round_top (x0 : Bool × TB9 × TB9) : Option (Bool × TB9) := (top CT).callF 106 (x0)
abbrev round_well (x0 : Bool × TB9 × TB9) : Option (Bool × TB9 × TB9) := (top CT).callF 107 (x0)
abbrev divide_DivMod (x0 x1 : TB9) : Option (TB9 × TB9 × Int) := (top CT).callF 108 (x0,x1)
abbrev round_made (x0 : Bool × TB9) : Option ((Bool × TB9 × TB9) × Int) := (top CT).callF 109 (x0)
abbrev whole_Make (x0 : Bool) (x1 : TB9) : Option (Bool × TB9) := (top CT).callF 110 (x0,x1)
abbrev nat_Cmp (x0 x1 : TB9) : Option (Int) := (top CT).callF 112 (x0,x1)
abbrev nat_Add (x0 x1 : TB9) : Option (TB9) := (top CT).callF 113 (x0,x1)
abbrev numtext_well (x0 : Bool × TB9 × TB9) : Option (Bool × TB9 × TB9) := (top CT).callF 115 (x0)
abbrev numtext_Ends (x0 : Bool × TB9 × TB9) : Option (Int × Bool) := (top CT).callF 116 (x0)
abbrev numtext_Point (x0 : Bool × TB9 × TB9) : Option (TB9 × Bool) := (top CT).callF 117 (x0)
abbrev dec_Text (x0 : TB9) : Option (TB9) := (top CT).callF 118 (x0)
abbrev strings_CutPrefix (x0 x1 : TB9) : Option (TB9 × Bool) := (top CT).callF 126 (x0,x1)
abbrev numtext_fraction (x0 x1 : TB9) : Option ((Bool × TB9 × TB9) × Int) := (top CT).callF 127 (x0,x1)
abbrev numtext_fraction_1 (a1 : TB9) (a2 : Int) (a3 : TB9) (a4 : Int) (a5 : Bool) (a6 : Bool × TB9 × TB9) : Option ((Bool × TB9 × TB9) × Int) := (top CT).stage 127 [] 127 [1,0,0,0,0,0,0,0,0,0,0,1,1,1] { env := [(4,(.ptr 64 0)),(6,(.str a1)),(7,(.int .i64 a2)),(8,(.str a3)),(9,(.int .i64 a4)),(20,(.bool a5))],heap := [(64,.box [(.bool a6.1),(.str a6.2.1),(.str a6.2.2)])],salt := 0 }
abbrev numtext_fraction_2 (a1 : TB9) (a2 : Int) (a3 : TB9) (a4 : Bool × TB9 × TB9) : Option ((Bool × TB9 × TB9) × Int) := (top CT).stage 127 [] 127 [1,0,0,1,1,1] { env := [(4,(.ptr 64 0)),(6,(.str a1)),(7,(.int .i64 a2)),(8,(.str a3))],heap := [(64,.box [(.bool a4.1),(.str a4.2.1),(.str a4.2.2)])],salt := 0 }
abbrev numtext_Decimal (x0 : TB9) : Option ((Bool × TB9 × TB9) × Int) := (top CT).callF 128 (x0)
abbrev numtext_Decimal_1 (a1 a2 a3 : TB9) (a4 : Bool) (a5 : Bool × TB9 × TB9) : Option ((Bool × TB9 × TB9) × Int) := (top CT).stage 128 [] 128 [1,0,0,1,1] { env := [(0,(.str a1)),(2,(.ptr 32 0)),(4,(.str a2)),(5,(.str a3)),(15,(.bool a4))],heap := [(32,.box [(.bool a5.1),(.str a5.2.1),(.str a5.2.2)])],salt := 0 }
abbrev rat_Neg (x0 : Bool × TB9 × TB9) : Option (Bool × TB9 × TB9) := (top CT).callF 129 (x0)
abbrev rat_Neg_1 (a1 a2 : Bool × TB9 × TB9) : Option (Bool × TB9 × TB9) := (top CT).stage 129 [] 129 [1,1,1] { env := [(1,(.ptr 16 0)),(2,(.ptr 32 0))],heap := [(16,.box [(.bool a1.1),(.str a1.2.1),(.str a1.2.2)]),(32,.box [(.bool a2.1),(.str a2.2.1),(.str a2.2.2)])],salt := 0 }
abbrev rat_Right (x0 : Bool × TB9 × TB9) : Option (Bool) := (top CT).callF 130 (x0)
abbrev rat_Right_1 (a1 : Bool) (a2 : Bool × TB9 × TB9) : Option (Bool) := (top CT).stage 130 [] 130 [1,0,0,1] { env := [(1,(.ptr 16 0)),(3,(.bool a1))],heap := [(16,.box [(.bool a2.1),(.str a2.2.1),(.str a2.2.2)])],salt := 0 }
abbrev ftext_letter (x0 : Int) : Option (Bool) := (top CT).callF 131 (x0)
abbrev value_Right (x0 : TV9) : Option (Bool) := (top CT).callF 145 (x0)
abbrev whole_Of (x0 : Int) : Option (Bool × TB9) := (top CT).callF 149 (x0)
abbrev whole_well (x0 : Bool × TB9) : Option (Bool × TB9) := (top CT).callF 150 (x0)
abbrev nat_Small (x0 : TB9) : Option (Int × Bool) := (top CT).callF 151 (x0)
abbrev nat_Trim (x0 : TB9) : Option (TB9) := (top CT).callF 153 (x0)
abbrev rat_Make (x0 x1 : Bool × TB9) : Option ((Bool × TB9 × TB9) × Int) := (top CT).callF 157 (x0,x1)
abbrev rat_Make_1 (a1 a2 : TB9) (a3 a4 : Bool × TB9) (a5 : Bool × TB9 × TB9) : Option ((Bool × TB9 × TB9) × Int) := (top CT).stage 157 [] 157 [1,1,1,1] { env := [(2,(.ptr 32 0)),(3,(.ptr 48 0)),(4,(.ptr 64 0)),(6,(.str a1)),(7,(.str a2))],heap := [(32,.box [(.bool a3.1),(.str a3.2)]),(48,.box [(.bool a4.1),(.str a4.2)]),(64,.box [(.bool a5.1),(.str a5.2.1),(.str a5.2.2)])],salt := 0 }
abbrev rat_Make_2 (a1 a2 : TB9) (a3 : Bool) (a4 a5 : Bool × TB9) (a6 : Bool × TB9 × TB9) : Option ((Bool × TB9 × TB9) × Int) := (top CT).stage 157 [] 157 [1,0,1,1,1,1] { env := [(2,(.ptr 32 0)),(3,(.ptr 48 0)),(4,(.ptr 64 0)),(6,(.str a1)),(7,(.str a2)),(44,(.bool a3))],heap := [(32,.box [(.bool a4.1),(.str a4.2)]),(48,.box [(.bool a5.1),(.str a5.2)]),(64,.box [(.bool a6.1),(.str a6.2.1),(.str a6.2.2)])],salt := 0 }
abbrev divide_Pow (x0 : TB9) (x1 : Int) : Option (TB9 × Int) := (top CT).callF 162 (x0,x1)
abbrev nat_Of (x0 : Int) : Option (TB9) := (top CT).callF 163 (x0)
abbrev nat_Mul (x0 x1 : TB9) : Option (TB9) := (top CT).callF 164 (x0,x1)
abbrev dec_Twos (x0 : TB9) : Option (Int × Int) := (top CT).callF 165 (x0)
abbrev numtext_power (x0 x1 : Int) : Option (TB9) := (top CT).callF 166 (x0,x1)
abbrev internal_stringslite_HasPrefix (x0 x1 : TB9) : Option (Bool) := (top CT).callF 171 (x0,x1)
abbrev internal_stringslite_CutPrefix (x0 x1 : TB9) : Option (TB9 × Bool) := (top CT).callF 174 (x0,x1)
abbrev dec_Parse (x0 : TB9) : Option (TB9 × Int) := (top CT).callF 175 (x0)
abbrev dec_Parse_1 (a1 : TB9) (a2 : Bool) : Option (TB9 × Int) := (top CT).stage 175 [] 175 [1,0,0,1] { env := [(0,(.str a1)),(10,(.bool a2))],heap := [],salt := 0 }
abbrev dec_Parse_2 (a1 a2 : TB9) : Option (TB9 × Int) := (top CT).stage 175 [] 175 [0,0,1,1,1] { env := [(0,(.str a1)),(4,(.str a2))],heap := [],salt := 0 }
abbrev dec_Parse_3 (a1 a2 : TB9) (a3 a4 a5 : Int) (a6 : List Int) (a7 a8 : Int) : Option (TB9 × Int) := (top CT).stage 175 [] 175 [0,1,0,1,1,0,1,0,0,0,1,1,1] { env := [(0,(.str a1)),(4,(.str a2)),(5,(.int .i64 a3)),(6,(.int .u64 a4)),(7,(.int .u64 a5)),(30,(.sl (.int .u8) a6 false)),(31,(.int .i64 a7)),(32,(.int .i64 a8))],heap := [],salt := 0 }
abbrev numtext_digits (x0 : TB9) : Option (Bool) := (top CT).callF 176 (x0)
abbrev numtext_digits_1 (a1 : TB9) (a2 : List Int) (a3 a4 : Int) : Option (Bool) := (top CT).stage 176 [] 176 [0,1,0,1] { env := [(0,(.str a1)),(6,(.sl (.int .u8) a2 false)),(7,(.int .i64 a3)),(8,(.int .i64 a4))],heap := [],salt := 0 }
abbrev numtext_digits_2 (a1 : TB9) (a2 : List Int) (a3 a4 : Int) (a5 : Bool) : Option (Bool) := (top CT).stage 176 [] 176 [1,1,0,0,1,1,0,0,1,0,1] { env := [(0,(.str a1)),(6,(.sl (.int .u8) a2 false)),(7,(.int .i64 a3)),(8,(.int .i64 a4)),(17,(.bool a5))],heap := [],salt := 0 }
abbrev rat_well (x0 : Bool × TB9 × TB9) : Option (Bool × TB9 × TB9) := (top CT).callF 177 (x0)
abbrev rat_tidy (x0 : TB9) : Option (Bool) := (top CT).callF 178 (x0)
abbrev divide_Gcd (x0 x1 : TB9) : Option (TB9) := (top CT).callF 179 (x0,x1)
abbrev dec_often (x0 : TB9) (x1 : Int) : Option (Int) := (top CT).callF 206 (x0,x1)
abbrev dec_often_1 (a1 : TB9) (a2 a3 : Int) : Option (Int) := (top CT).stage 206 [] 206 [0,0,1,1] { env := [(0,(.str a1)),(1,(.int .u64 a2)),(5,(.int .i64 a3))],heap := [],salt := 0 }
abbrev dec_often_2 (a1 a2 : Int) (a3 : TB9) (a4 : Bool) : Option (Int) := (top CT).stage 206 [] 206 [1,0,1,0,1,0,0,0,1,1] { env := [(1,(.int .u64 a1)),(5,(.int .i64 a2)),(6,(.str a3)),(24,(.bool a4))],heap := [],salt := 0 }
abbrev dec_odd (x0 : TB9) : Option (Bool) := (top CT).callF 213 (x0)
abbrev dec_odd_1 (a1 : List Int) (a2 a3 : Int) : Option (Bool) := (top CT).stage 213 [] 213 [0,1,0,1] { env := [(6,(.sl (.int .u8) a1 false)),(7,(.int .i64 a2)),(8,(.int .i64 a3))],heap := [],salt := 0 }
abbrev dec_odd_2 (a1 : List Int) (a2 a3 : Int) (a4 : Bool) : Option (Bool) := (top CT).stage 213 [] 213 [1,1,0,0,1,1,0,0,1,0,1] { env := [(6,(.sl (.int .u8) a1 false)),(7,(.int .i64 a2)),(8,(.int .i64 a3)),(17,(.bool a4))],heap := [],salt := 0 }
end
end Go.Proofs.YtpdfjgooaaailaaGreatDoor.K
set_option maxRecDepth 100000
namespace Go.Proofs.YtpdfjgooaaailaaGreatDoor.K
open Go
theorem look_all {α : Type} {Q : Nat → α → Prop} : ∀ {l : List (Nat × α)}, (∀ p ∈ l, Q p.1 p.2) → ∀ t v, look l t = some v → Q t v
  | [], _, t, v, h => by cases h
  | (u, x) :: l, hl, t, v, h => by
    simp only [look] at h
    split at h
    · rename_i hb
      have := Nat.eq_of_beq_eq_true hb
      subst this
      cases h
      exact hl _ (List.mem_cons_self ..)
    · exact look_all (fun p hp => hl p (List.mem_cons_of_mem _ hp)) t v h
theorem all_nil {α : Type} {Q : Nat → α → Prop} : ∀ p ∈ ([] : List (Nat × α)), Q p.1 p.2 := fun p h => by cases h
theorem all_cons {α : Type} {Q : Nat → α → Prop} {u : Nat} {x : α} {l : List (Nat × α)} (h : Q u x) (hl : ∀ p ∈ l, Q p.1 p.2) : ∀ p ∈ (u, x) :: l, Q p.1 p.2 := fun p hp => by
  rcases List.mem_cons.1 hp with rfl | hp
  · exact h
  · exact hl p hp
theorem tiok2 : TIok Tryz.prog 2 ti2 := ⟨by kernel_rfl, by kernel_rfl, by kernel_rfl, by kernel_rfl, by kernel_rfl, by kernel_rfl, by kernel_rfl, by kernel_rfl, ⟨by kernel_rfl, by kernel_rfl, by kernel_rfl⟩, fun h => by cases h⟩
theorem tiok3 : TIok Tryz.prog 3 ti3 := ⟨by kernel_rfl, by kernel_rfl, by kernel_rfl, by kernel_rfl, by kernel_rfl, by kernel_rfl, by kernel_rfl, by kernel_rfl, ⟨by kernel_rfl, by kernel_rfl, by kernel_rfl⟩, fun h => by cases h⟩
theorem tiok4 : TIok Tryz.prog 4 ti4 := ⟨by kernel_rfl, by kernel_rfl, by kernel_rfl, by kernel_rfl, by kernel_rfl, by kernel_rfl, by kernel_rfl, by kernel_rfl, ⟨by kernel_rfl, by kernel_rfl, by kernel_rfl⟩, fun h => by cases h⟩
theorem tiok5 : TIok Tryz.prog 5 ti5 := ⟨by kernel_rfl, by kernel_rfl, by kernel_rfl, by kernel_rfl, by kernel_rfl, by kernel_rfl, by kernel_rfl, by kernel_rfl, ⟨by kernel_rfl, by kernel_rfl, by kernel_rfl⟩, fun h => by cases h⟩
theorem tiok9 : TIok Tryz.prog 9 ti9 := ⟨by kernel_rfl, by kernel_rfl, by kernel_rfl, by kernel_rfl, by kernel_rfl, by kernel_rfl, by kernel_rfl, by kernel_rfl, ⟨by kernel_rfl, by kernel_rfl, by kernel_rfl⟩, fun h => by cases h⟩
theorem tiok22 : TIok Tryz.prog 22 ti22 := ⟨by kernel_rfl, by kernel_rfl, by kernel_rfl, by kernel_rfl, by kernel_rfl, by kernel_rfl, by kernel_rfl, by kernel_rfl, ⟨by kernel_rfl, by kernel_rfl, by kernel_rfl⟩, fun h => by cases h⟩
theorem tiok28 : TIok Tryz.prog 28 ti28 := ⟨by kernel_rfl, by kernel_rfl, by kernel_rfl, by kernel_rfl, by kernel_rfl, by kernel_rfl, by kernel_rfl, by kernel_rfl, ⟨by kernel_rfl, by kernel_rfl, by kernel_rfl⟩, fun h => by cases h⟩
theorem tiok30 : TIok Tryz.prog 30 ti30 := ⟨by kernel_rfl, by kernel_rfl, by kernel_rfl, by kernel_rfl, by kernel_rfl, by kernel_rfl, by kernel_rfl, by kernel_rfl, ⟨by kernel_rfl, by kernel_rfl, by kernel_rfl⟩, fun _ => eq_fits (by kernel_rfl) (by kernel_rfl)⟩
theorem tiok40 : TIok Tryz.prog 40 ti40 := ⟨by kernel_rfl, by kernel_rfl, by kernel_rfl, by kernel_rfl, by kernel_rfl, by kernel_rfl, by kernel_rfl, by kernel_rfl, ⟨by kernel_rfl, by kernel_rfl, by kernel_rfl⟩, fun h => by cases h⟩
theorem tiok46 : TIok Tryz.prog 46 ti46 := ⟨by kernel_rfl, by kernel_rfl, by kernel_rfl, by kernel_rfl, by kernel_rfl, by kernel_rfl, by kernel_rfl, by kernel_rfl, ⟨by kernel_rfl, by kernel_rfl, by kernel_rfl⟩, fun h => by cases h⟩
theorem tiok48 : TIok Tryz.prog 48 ti48 := ⟨by kernel_rfl, by kernel_rfl, by kernel_rfl, by kernel_rfl, by kernel_rfl, by kernel_rfl, by kernel_rfl, by kernel_rfl, trivial, fun h => by cases h⟩
theorem tiok52 : TIok Tryz.prog 52 ti52 := ⟨by kernel_rfl, by kernel_rfl, by kernel_rfl, by kernel_rfl, by kernel_rfl, by kernel_rfl, by kernel_rfl, by kernel_rfl, ⟨by kernel_rfl, by kernel_rfl, by kernel_rfl⟩, fun h => by cases h⟩
theorem tiok53 : TIok Tryz.prog 53 ti53 := ⟨by kernel_rfl, by kernel_rfl, by kernel_rfl, by kernel_rfl, by kernel_rfl, by kernel_rfl, by kernel_rfl, by kernel_rfl, ⟨by kernel_rfl, by kernel_rfl, by kernel_rfl⟩, fun h => by cases h⟩
theorem tiok55 : TIok Tryz.prog 55 ti55 := ⟨by kernel_rfl, by kernel_rfl, by kernel_rfl, by kernel_rfl, by kernel_rfl, by kernel_rfl, by kernel_rfl, by kernel_rfl, ⟨by kernel_rfl, by kernel_rfl, by kernel_rfl⟩, fun h => by cases h⟩
theorem tiok56 : TIok Tryz.prog 56 ti56 := ⟨by kernel_rfl, by kernel_rfl, by kernel_rfl, by kernel_rfl, by kernel_rfl, by kernel_rfl, by kernel_rfl, by kernel_rfl, ⟨by kernel_rfl, by kernel_rfl, by kernel_rfl⟩, fun h => by cases h⟩
theorem tiok60 : TIok Tryz.prog 60 ti60 := ⟨by kernel_rfl, by kernel_rfl, by kernel_rfl, by kernel_rfl, by kernel_rfl, by kernel_rfl, by kernel_rfl, by kernel_rfl, ⟨by kernel_rfl, by kernel_rfl, by kernel_rfl⟩, fun h => by cases h⟩
theorem tiok62 : TIok Tryz.prog 62 ti62 := ⟨by kernel_rfl, by kernel_rfl, by kernel_rfl, by kernel_rfl, by kernel_rfl, by kernel_rfl, by kernel_rfl, by kernel_rfl, ⟨by kernel_rfl, by kernel_rfl, by kernel_rfl⟩, fun h => by cases h⟩
theorem tiok67 : TIok Tryz.prog 67 ti67 := ⟨by kernel_rfl, by kernel_rfl, by kernel_rfl, by kernel_rfl, by kernel_rfl, by kernel_rfl, by kernel_rfl, by kernel_rfl, ⟨by kernel_rfl, by kernel_rfl, by kernel_rfl⟩, fun _ => eq_fits (by kernel_rfl) (by kernel_rfl)⟩
theorem tiok71 : TIok Tryz.prog 71 ti71 := ⟨by kernel_rfl, by kernel_rfl, by kernel_rfl, by kernel_rfl, by kernel_rfl, by kernel_rfl, by kernel_rfl, by kernel_rfl, ⟨by kernel_rfl, by kernel_rfl, by kernel_rfl⟩, fun h => by cases h⟩
theorem tiok77 : TIok Tryz.prog 77 ti77 := ⟨by kernel_rfl, by kernel_rfl, by kernel_rfl, by kernel_rfl, by kernel_rfl, by kernel_rfl, by kernel_rfl, by kernel_rfl, ⟨by kernel_rfl, by kernel_rfl, by kernel_rfl⟩, fun h => by cases h⟩
theorem tiok80 : TIok Tryz.prog 80 ti80 := ⟨by kernel_rfl, by kernel_rfl, by kernel_rfl, by kernel_rfl, by kernel_rfl, by kernel_rfl, by kernel_rfl, by kernel_rfl, trivial, fun h => by cases h⟩
theorem tiok82 : TIok Tryz.prog 82 ti82 := ⟨by kernel_rfl, by kernel_rfl, by kernel_rfl, by kernel_rfl, by kernel_rfl, by kernel_rfl, by kernel_rfl, by kernel_rfl, ⟨by kernel_rfl, by kernel_rfl, by kernel_rfl⟩, fun h => by cases h⟩
theorem tiok85 : TIok Tryz.prog 85 ti85 := ⟨by kernel_rfl, by kernel_rfl, by kernel_rfl, by kernel_rfl, by kernel_rfl, by kernel_rfl, by kernel_rfl, by kernel_rfl, ⟨by kernel_rfl, by kernel_rfl, by kernel_rfl⟩, fun h => by cases h⟩
theorem tiok91 : TIok Tryz.prog 91 ti91 := ⟨by kernel_rfl, by kernel_rfl, by kernel_rfl, by kernel_rfl, by kernel_rfl, by kernel_rfl, by kernel_rfl, by kernel_rfl, ⟨by kernel_rfl, by kernel_rfl, by kernel_rfl⟩, fun h => by cases h⟩
theorem tiok92 : TIok Tryz.prog 92 ti92 := ⟨by kernel_rfl, by kernel_rfl, by kernel_rfl, by kernel_rfl, by kernel_rfl, by kernel_rfl, by kernel_rfl, by kernel_rfl, trivial, fun h => by cases h⟩
theorem tiok121 : TIok Tryz.prog 121 ti121 := ⟨by kernel_rfl, by kernel_rfl, by kernel_rfl, by kernel_rfl, by kernel_rfl, by kernel_rfl, by kernel_rfl, by kernel_rfl, ⟨by kernel_rfl, by kernel_rfl, by kernel_rfl⟩, fun h => by cases h⟩
theorem tiok139 : TIok Tryz.prog 139 ti139 := ⟨by kernel_rfl, by kernel_rfl, by kernel_rfl, by kernel_rfl, by kernel_rfl, by kernel_rfl, by kernel_rfl, by kernel_rfl, trivial, fun h => by cases h⟩
theorem tiok141 : TIok Tryz.prog 141 ti141 := ⟨by kernel_rfl, by kernel_rfl, by kernel_rfl, by kernel_rfl, by kernel_rfl, by kernel_rfl, by kernel_rfl, by kernel_rfl, trivial, fun h => by cases h⟩
theorem tiok177 : TIok Tryz.prog 177 ti177 := ⟨by kernel_rfl, by kernel_rfl, by kernel_rfl, by kernel_rfl, by kernel_rfl, by kernel_rfl, by kernel_rfl, by kernel_rfl, trivial, fun h => by cases h⟩
theorem tiok227 : TIok Tryz.prog 227 ti227 := ⟨by kernel_rfl, by kernel_rfl, by kernel_rfl, by kernel_rfl, by kernel_rfl, by kernel_rfl, by kernel_rfl, by kernel_rfl, ⟨by kernel_rfl, by kernel_rfl, by kernel_rfl⟩, fun h => by cases h⟩
theorem tis_ok : CtxTI Tryz.prog CT := look_all (l := tis) (all_cons tiok2 (all_cons tiok3 (all_cons tiok4 (all_cons tiok5 (all_cons tiok9 (all_cons tiok22 (all_cons tiok28 (all_cons tiok30 (all_cons tiok40 (all_cons tiok46 (all_cons tiok48 (all_cons tiok52 (all_cons tiok53 (all_cons tiok55 (all_cons tiok56 (all_cons tiok60 (all_cons tiok62 (all_cons tiok67 (all_cons tiok71 (all_cons tiok77 (all_cons tiok80 (all_cons tiok82 (all_cons tiok85 (all_cons tiok91 (all_cons tiok92 (all_cons tiok121 (all_cons tiok139 (all_cons tiok141 (all_cons tiok177 (all_cons tiok227 all_nil))))))))))))))))))))))))))))))
def FnOk (f : Nat) (fn : Func) : Prop := Tryz.prog.funcs[f]? = some fn ∧ fn.body.isSome = true ∧ (fn.name == "runtime.NumGoroutine") = false
def ParOk (i : Nat) (fn : Func) : Prop := ((look ptsL i).getD []).length ≤ fn.ntmps
theorem fnok24 : FnOk 24 Tryz.f24 := ⟨Tryz.func24, by kernel_rfl, by kernel_rfl⟩
theorem fnok26 : FnOk 26 Tryz.f26 := ⟨Tryz.func26, by kernel_rfl, by kernel_rfl⟩
theorem fnok36 : FnOk 36 Tryz.f36 := ⟨Tryz.func36, by kernel_rfl, by kernel_rfl⟩
theorem fnok38 : FnOk 38 Tryz.f38 := ⟨Tryz.func38, by kernel_rfl, by kernel_rfl⟩
theorem fnok39 : FnOk 39 Tryz.f39 := ⟨Tryz.func39, by kernel_rfl, by kernel_rfl⟩
theorem fnok41 : FnOk 41 Tryz.f41 := ⟨Tryz.func41, by kernel_rfl, by kernel_rfl⟩
theorem fnok43 : FnOk 43 Tryz.f43 := ⟨Tryz.func43, by kernel_rfl, by kernel_rfl⟩
theorem fnok45 : FnOk 45 Tryz.f45 := ⟨Tryz.func45, by kernel_rfl, by kernel_rfl⟩
theorem fnok47 : FnOk 47 Tryz.f47 := ⟨Tryz.func47, by kernel_rfl, by kernel_rfl⟩
theorem fnok49 : FnOk 49 Tryz.f49 := ⟨Tryz.func49, by kernel_rfl, by kernel_rfl⟩
theorem fnok52 : FnOk 52 Tryz.f52 := ⟨Tryz.func52, by kernel_rfl, by kernel_rfl⟩
theorem fnok53 : FnOk 53 Tryz.f53 := ⟨Tryz.func53, by kernel_rfl, by kernel_rfl⟩
theorem fnok61 : FnOk 61 Tryz.f61 := ⟨Tryz.func61, by kernel_rfl, by kernel_rfl⟩
theorem fnok63 : FnOk 63 Tryz.f63 := ⟨Tryz.func63, by kernel_rfl, by kernel_rfl⟩
theorem fnok64 : FnOk 64 Tryz.f64 := ⟨Tryz.func64, by kernel_rfl, by kernel_rfl⟩
theorem fnok66 : FnOk 66 Tryz.f66 := ⟨Tryz.func66, by kernel_rfl, by kernel_rfl⟩
theorem fnok68 : FnOk 68 Tryz.f68 := ⟨Tryz.func68, by kernel_rfl, by kernel_rfl⟩
theorem fnok70 : FnOk 70 Tryz.f70 := ⟨Tryz.func70, by kernel_rfl, by kernel_rfl⟩
theorem fnok72 : FnOk 72 Tryz.f72 := ⟨Tryz.func72, by kernel_rfl, by kernel_rfl⟩
theorem fnok88 : FnOk 88 Tryz.f88 := ⟨Tryz.func88, by kernel_rfl, by kernel_rfl⟩
theorem fnok90 : FnOk 90 Tryz.f90 := ⟨Tryz.func90, by kernel_rfl, by kernel_rfl⟩
theorem fnok91 : FnOk 91 Tryz.f91 := ⟨Tryz.func91, by kernel_rfl, by kernel_rfl⟩
theorem fnok111 : FnOk 111 Tryz.f111 := ⟨Tryz.func111, by kernel_rfl, by kernel_rfl⟩
theorem fnok114 : FnOk 114 Tryz.f114 := ⟨Tryz.func114, by kernel_rfl, by kernel_rfl⟩
theorem fnok123 : FnOk 123 Tryz.f123 := ⟨Tryz.func123, by kernel_rfl, by kernel_rfl⟩
theorem fnok125 : FnOk 125 Tryz.f125 := ⟨Tryz.func125, by kernel_rfl, by kernel_rfl⟩
theorem fnok132 : FnOk 132 Tryz.f132 := ⟨Tryz.func132, by kernel_rfl, by kernel_rfl⟩
theorem fnok133 : FnOk 133 Tryz.f133 := ⟨Tryz.func133, by kernel_rfl, by kernel_rfl⟩
theorem fnok140 : FnOk 140 Tryz.f140 := ⟨Tryz.func140, by kernel_rfl, by kernel_rfl⟩
theorem fnok141 : FnOk 141 Tryz.f141 := ⟨Tryz.func141, by kernel_rfl, by kernel_rfl⟩
theorem fnok142 : FnOk 142 Tryz.f142 := ⟨Tryz.func142, by kernel_rfl, by kernel_rfl⟩
theorem fnok143 : FnOk 143 Tryz.f143 := ⟨Tryz.func143, by kernel_rfl, by kernel_rfl⟩
theorem fnok172 : FnOk 172 Tryz.f172 := ⟨Tryz.func172, by kernel_rfl, by kernel_rfl⟩
theorem fnok180 : FnOk 180 Tryz.f180 := ⟨Tryz.func180, by kernel_rfl, by kernel_rfl⟩
theorem fnok181 : FnOk 181 Tryz.f181 := ⟨Tryz.func181, by kernel_rfl, by kernel_rfl⟩
theorem fnok182 : FnOk 182 Tryz.f182 := ⟨Tryz.func182, by kernel_rfl, by kernel_rfl⟩
theorem fnok214 : FnOk 214 Tryz.f214 := ⟨Tryz.func214, by kernel_rfl, by kernel_rfl⟩
theorem fnok229 : FnOk 229 Tryz.f229 := ⟨Tryz.func229, by kernel_rfl, by kernel_rfl⟩
theorem fnok231 : FnOk 231 Tryz.f231 := ⟨Tryz.func231, by kernel_rfl, by kernel_rfl⟩
theorem fnok233 : FnOk 233 Tryz.f233 := ⟨Tryz.func233, by kernel_rfl, by kernel_rfl⟩
theorem fnok236 : FnOk 236 Tryz.f236 := ⟨Tryz.func236, by kernel_rfl, by kernel_rfl⟩
theorem fnok237 : FnOk 237 Tryz.f237 := ⟨Tryz.func237, by kernel_rfl, by kernel_rfl⟩
theorem fnok242 : FnOk 242 Tryz.f242 := ⟨Tryz.func242, by kernel_rfl, by kernel_rfl⟩
theorem fnok3 : FnOk 3 Tryz.f3 := ⟨Tryz.func3, by kernel_rfl, by kernel_rfl⟩
theorem fnok4 : FnOk 4 Tryz.f4 := ⟨Tryz.func4, by kernel_rfl, by kernel_rfl⟩
theorem fnok5 : FnOk 5 Tryz.f5 := ⟨Tryz.func5, by kernel_rfl, by kernel_rfl⟩
theorem fnok6 : FnOk 6 Tryz.f6 := ⟨Tryz.func6, by kernel_rfl, by kernel_rfl⟩
theorem fnok7 : FnOk 7 Tryz.f7 := ⟨Tryz.func7, by kernel_rfl, by kernel_rfl⟩
theorem fnok8 : FnOk 8 Tryz.f8 := ⟨Tryz.func8, by kernel_rfl, by kernel_rfl⟩
theorem fnok9 : FnOk 9 Tryz.f9 := ⟨Tryz.func9, by kernel_rfl, by kernel_rfl⟩
theorem fnok10 : FnOk 10 Tryz.f10 := ⟨Tryz.func10, by kernel_rfl, by kernel_rfl⟩
theorem fnok11 : FnOk 11 Tryz.f11 := ⟨Tryz.func11, by kernel_rfl, by kernel_rfl⟩
theorem fnok12 : FnOk 12 Tryz.f12 := ⟨Tryz.func12, by kernel_rfl, by kernel_rfl⟩
theorem fnok13 : FnOk 13 Tryz.f13 := ⟨Tryz.func13, by kernel_rfl, by kernel_rfl⟩
theorem fnok14 : FnOk 14 Tryz.f14 := ⟨Tryz.func14, by kernel_rfl, by kernel_rfl⟩
theorem fnok15 : FnOk 15 Tryz.f15 := ⟨Tryz.func15, by kernel_rfl, by kernel_rfl⟩
theorem fnok16 : FnOk 16 Tryz.f16 := ⟨Tryz.func16, by kernel_rfl, by kernel_rfl⟩
theorem fnok17 : FnOk 17 Tryz.f17 := ⟨Tryz.func17, by kernel_rfl, by kernel_rfl⟩
theorem fnok18 : FnOk 18 Tryz.f18 := ⟨Tryz.func18, by kernel_rfl, by kernel_rfl⟩
theorem fnok19 : FnOk 19 Tryz.f19 := ⟨Tryz.func19, by kernel_rfl, by kernel_rfl⟩
theorem fnok20 : FnOk 20 Tryz.f20 := ⟨Tryz.func20, by kernel_rfl, by kernel_rfl⟩
theorem fnok21 : FnOk 21 Tryz.f21 := ⟨Tryz.func21, by kernel_rfl, by kernel_rfl⟩
theorem fnok22 : FnOk 22 Tryz.f22 := ⟨Tryz.func22, by kernel_rfl, by kernel_rfl⟩
theorem fnok23 : FnOk 23 Tryz.f23 := ⟨Tryz.func23, by kernel_rfl, by kernel_rfl⟩
theorem fnok25 : FnOk 25 Tryz.f25 := ⟨Tryz.func25, by kernel_rfl, by kernel_rfl⟩
theorem fnok27 : FnOk 27 Tryz.f27 := ⟨Tryz.func27, by kernel_rfl, by kernel_rfl⟩
theorem fnok28 : FnOk 28 Tryz.f28 := ⟨Tryz.func28, by kernel_rfl, by kernel_rfl⟩
theorem fnok29 : FnOk 29 Tryz.f29 := ⟨Tryz.func29, by kernel_rfl, by kernel_rfl⟩
theorem fnok30 : FnOk 30 Tryz.f30 := ⟨Tryz.func30, by kernel_rfl, by kernel_rfl⟩
theorem fnok31 : FnOk 31 Tryz.f31 := ⟨Tryz.func31, by kernel_rfl, by kernel_rfl⟩
theorem fnok32 : FnOk 32 Tryz.f32 := ⟨Tryz.func32, by kernel_rfl, by kernel_rfl⟩
theorem fnok33 : FnOk 33 Tryz.f33 := ⟨Tryz.func33, by kernel_rfl, by kernel_rfl⟩
theorem fnok34 : FnOk 34 Tryz.f34 := ⟨Tryz.func34, by kernel_rfl, by kernel_rfl⟩
theorem fnok35 : FnOk 35 Tryz.f35 := ⟨Tryz.func35, by kernel_rfl, by kernel_rfl⟩
theorem fnok37 : FnOk 37 Tryz.f37 := ⟨Tryz.func37, by kernel_rfl, by kernel_rfl⟩
theorem fnok40 : FnOk 40 Tryz.f40 := ⟨Tryz.func40, by kernel_rfl, by kernel_rfl⟩
theorem fnok42 : FnOk 42 Tryz.f42 := ⟨Tryz.func42, by kernel_rfl, by kernel_rfl⟩
theorem fnok44 : FnOk 44 Tryz.f44 := ⟨Tryz.func44, by kernel_rfl, by kernel_rfl⟩
theorem fnok46 : FnOk 46 Tryz.f46 := ⟨Tryz.func46, by kernel_rfl, by kernel_rfl⟩
theorem fnok48 : FnOk 48 Tryz.f48 := ⟨Tryz.func48, by kernel_rfl, by kernel_rfl⟩
theorem fnok50 : FnOk 50 Tryz.f50 := ⟨Tryz.func50, by kernel_rfl, by kernel_rfl⟩
theorem fnok51 : FnOk 51 Tryz.f51 := ⟨Tryz.func51, by kernel_rfl, by kernel_rfl⟩
theorem fnok54 : FnOk 54 Tryz.f54 := ⟨Tryz.func54, by kernel_rfl, by kernel_rfl⟩
theorem fnok55 : FnOk 55 Tryz.f55 := ⟨Tryz.func55, by kernel_rfl, by kernel_rfl⟩
theorem fnok56 : FnOk 56 Tryz.f56 := ⟨Tryz.func56, by kernel_rfl, by kernel_rfl⟩
theorem fnok57 : FnOk 57 Tryz.f57 := ⟨Tryz.func57, by kernel_rfl, by kernel_rfl⟩
theorem fnok58 : FnOk 58 Tryz.f58 := ⟨Tryz.func58, by kernel_rfl, by kernel_rfl⟩
theorem fnok59 : FnOk 59 Tryz.f59 := ⟨Tryz.func59, by kernel_rfl, by kernel_rfl⟩
theorem fnok60 : FnOk 60 Tryz.f60 := ⟨Tryz.func60, by kernel_rfl, by kernel_rfl⟩
theorem fnok62 : FnOk 62 Tryz.f62 := ⟨Tryz.func62, by kernel_rfl, by kernel_rfl⟩
theorem fnok65 : FnOk 65 Tryz.f65 := ⟨Tryz.func65, by kernel_rfl, by kernel_rfl⟩
theorem fnok67 : FnOk 67 Tryz.f67 := ⟨Tryz.func67, by kernel_rfl, by kernel_rfl⟩
theorem fnok69 : FnOk 69 Tryz.f69 := ⟨Tryz.func69, by kernel_rfl, by kernel_rfl⟩
theorem fnok71 : FnOk 71 Tryz.f71 := ⟨Tryz.func71, by kernel_rfl, by kernel_rfl⟩
theorem fnok73 : FnOk 73 Tryz.f73 := ⟨Tryz.func73, by kernel_rfl, by kernel_rfl⟩
theorem fnok74 : FnOk 74 Tryz.f74 := ⟨Tryz.func74, by kernel_rfl, by kernel_rfl⟩
theorem fnok75 : FnOk 75 Tryz.f75 := ⟨Tryz.func75, by kernel_rfl, by kernel_rfl⟩
theorem fnok76 : FnOk 76 Tryz.f76 := ⟨Tryz.func76, by kernel_rfl, by kernel_rfl⟩
theorem fnok77 : FnOk 77 Tryz.f77 := ⟨Tryz.func77, by kernel_rfl, by kernel_rfl⟩
theorem fnok78 : FnOk 78 Tryz.f78 := ⟨Tryz.func78, by kernel_rfl, by kernel_rfl⟩
theorem fnok79 : FnOk 79 Tryz.f79 := ⟨Tryz.func79, by kernel_rfl, by kernel_rfl⟩
theorem fnok80 : FnOk 80 Tryz.f80 := ⟨Tryz.func80, by kernel_rfl, by kernel_rfl⟩
theorem fnok81 : FnOk 81 Tryz.f81 := ⟨Tryz.func81, by kernel_rfl, by kernel_rfl⟩
theorem fnok82 : FnOk 82 Tryz.f82 := ⟨Tryz.func82, by kernel_rfl, by kernel_rfl⟩
theorem fnok83 : FnOk 83 Tryz.f83 := ⟨Tryz.func83, by kernel_rfl, by kernel_rfl⟩
theorem fnok84 : FnOk 84 Tryz.f84 := ⟨Tryz.func84, by kernel_rfl, by kernel_rfl⟩
theorem fnok85 : FnOk 85 Tryz.f85 := ⟨Tryz.func85, by kernel_rfl, by kernel_rfl⟩
theorem fnok86 : FnOk 86 Tryz.f86 := ⟨Tryz.func86, by kernel_rfl, by kernel_rfl⟩
theorem fnok87 : FnOk 87 Tryz.f87 := ⟨Tryz.func87, by kernel_rfl, by kernel_rfl⟩
theorem fnok89 : FnOk 89 Tryz.f89 := ⟨Tryz.func89, by kernel_rfl, by kernel_rfl⟩
theorem fnok92 : FnOk 92 Tryz.f92 := ⟨Tryz.func92, by kernel_rfl, by kernel_rfl⟩
theorem fnok94 : FnOk 94 Tryz.f94 := ⟨Tryz.func94, by kernel_rfl, by kernel_rfl⟩
theorem fnok96 : FnOk 96 Tryz.f96 := ⟨Tryz.func96, by kernel_rfl, by kernel_rfl⟩
theorem fnok97 : FnOk 97 Tryz.f97 := ⟨Tryz.func97, by kernel_rfl, by kernel_rfl⟩
theorem fnok98 : FnOk 98 Tryz.f98 := ⟨Tryz.func98, by kernel_rfl, by kernel_rfl⟩
theorem fnok99 : FnOk 99 Tryz.f99 := ⟨Tryz.func99, by kernel_rfl, by kernel_rfl⟩
theorem fnok100 : FnOk 100 Tryz.f100 := ⟨Tryz.func100, by kernel_rfl, by kernel_rfl⟩
theorem fnok101 : FnOk 101 Tryz.f101 := ⟨Tryz.func101, by kernel_rfl, by kernel_rfl⟩
theorem fnok102 : FnOk 102 Tryz.f102 := ⟨Tryz.func102, by kernel_rfl, by kernel_rfl⟩
theorem fnok103 : FnOk 103 Tryz.f103 := ⟨Tryz.func103, by kernel_rfl, by kernel_rfl⟩
theorem fnok104 : FnOk 104 Tryz.f104 := ⟨Tryz.func104, by kernel_rfl, by kernel_rfl⟩
theorem fnok105 : FnOk 105 Tryz.f105 := ⟨Tryz.func105, by kernel_rfl, by kernel_rfl⟩
theorem fnok106 : FnOk 106 Tryz.f106 := ⟨Tryz.func106, by kernel_rfl, by kernel_rfl⟩
theorem fnok107 : FnOk 107 Tryz.f107 := ⟨Tryz.func107, by kernel_rfl, by kernel_rfl⟩
theorem fnok108 : FnOk 108 Tryz.f108 := ⟨Tryz.func108, by kernel_rfl, by kernel_rfl⟩
theorem fnok109 : FnOk 109 Tryz.f109 := ⟨Tryz.func109, by kernel_rfl, by kernel_rfl⟩
theorem fnok110 : FnOk 110 Tryz.f110 := ⟨Tryz.func110, by kernel_rfl, by kernel_rfl⟩
theorem fnok112 : FnOk 112 Tryz.f112 := ⟨Tryz.func112, by kernel_rfl, by kernel_rfl⟩
theorem fnok113 : FnOk 113 Tryz.f113 := ⟨Tryz.func113, by kernel_rfl, by kernel_rfl⟩
theorem fnok115 : FnOk 115 Tryz.f115 := ⟨Tryz.func115, by kernel_rfl, by kernel_rfl⟩
theorem fnok116 : FnOk 116 Tryz.f116 := ⟨Tryz.func116, by kernel_rfl, by kernel_rfl⟩
theorem fnok117 : FnOk 117 Tryz.f117 := ⟨Tryz.func117, by kernel_rfl, by kernel_rfl⟩
theorem fnok118 : FnOk 118 Tryz.f118 := ⟨Tryz.func118, by kernel_rfl, by kernel_rfl⟩
theorem fnok121 : FnOk 121 Tryz.f121 := ⟨Tryz.func121, by kernel_rfl, by kernel_rfl⟩
theorem fnok126 : FnOk 126 Tryz.f126 := ⟨Tryz.func126, by kernel_rfl, by kernel_rfl⟩
theorem fnok127 : FnOk 127 Tryz.f127 := ⟨Tryz.func127, by kernel_rfl, by kernel_rfl⟩
theorem fnok128 : FnOk 128 Tryz.f128 := ⟨Tryz.func128, by kernel_rfl, by kernel_rfl⟩
theorem fnok129 : FnOk 129 Tryz.f129 := ⟨Tryz.func129, by kernel_rfl, by kernel_rfl⟩
theorem fnok130 : FnOk 130 Tryz.f130 := ⟨Tryz.func130, by kernel_rfl, by kernel_rfl⟩
theorem fnok131 : FnOk 131 Tryz.f131 := ⟨Tryz.func131, by kernel_rfl, by kernel_rfl⟩
theorem fnok134 : FnOk 134 Tryz.f134 := ⟨Tryz.func134, by kernel_rfl, by kernel_rfl⟩
theorem fnok135 : FnOk 135 Tryz.f135 := ⟨Tryz.func135, by kernel_rfl, by kernel_rfl⟩
theorem fnok136 : FnOk 136 Tryz.f136 := ⟨Tryz.func136, by kernel_rfl, by kernel_rfl⟩
theorem fnok137 : FnOk 137 Tryz.f137 := ⟨Tryz.func137, by kernel_rfl, by kernel_rfl⟩
theorem fnok138 : FnOk 138 Tryz.f138 := ⟨Tryz.func138, by kernel_rfl, by kernel_rfl⟩
theorem fnok139 : FnOk 139 Tryz.f139 := ⟨Tryz.func139, by kernel_rfl, by kernel_rfl⟩
theorem fnok145 : FnOk 145 Tryz.f145 := ⟨Tryz.func145, by kernel_rfl, by kernel_rfl⟩
theorem fnok149 : FnOk 149 Tryz.f149 := ⟨Tryz.func149, by kernel_rfl, by kernel_rfl⟩
theorem fnok150 : FnOk 150 Tryz.f150 := ⟨Tryz.func150, by kernel_rfl, by kernel_rfl⟩
theorem fnok151 : FnOk 151 Tryz.f151 := ⟨Tryz.func151, by kernel_rfl, by kernel_rfl⟩
theorem fnok153 : FnOk 153 Tryz.f153 := ⟨Tryz.func153, by kernel_rfl, by kernel_rfl⟩
theorem fnok157 : FnOk 157 Tryz.f157 := ⟨Tryz.func157, by kernel_rfl, by kernel_rfl⟩
theorem fnok162 : FnOk 162 Tryz.f162 := ⟨Tryz.func162, by kernel_rfl, by kernel_rfl⟩
theorem fnok163 : FnOk 163 Tryz.f163 := ⟨Tryz.func163, by kernel_rfl, by kernel_rfl⟩
theorem fnok164 : FnOk 164 Tryz.f164 := ⟨Tryz.func164, by kernel_rfl, by kernel_rfl⟩
theorem fnok165 : FnOk 165 Tryz.f165 := ⟨Tryz.func165, by kernel_rfl, by kernel_rfl⟩
theorem fnok166 : FnOk 166 Tryz.f166 := ⟨Tryz.func166, by kernel_rfl, by kernel_rfl⟩
theorem fnok171 : FnOk 171 Tryz.f171 := ⟨Tryz.func171, by kernel_rfl, by kernel_rfl⟩
theorem fnok174 : FnOk 174 Tryz.f174 := ⟨Tryz.func174, by kernel_rfl, by kernel_rfl⟩
theorem fnok175 : FnOk 175 Tryz.f175 := ⟨Tryz.func175, by kernel_rfl, by kernel_rfl⟩
theorem fnok176 : FnOk 176 Tryz.f176 := ⟨Tryz.func176, by kernel_rfl, by kernel_rfl⟩
theorem fnok177 : FnOk 177 Tryz.f177 := ⟨Tryz.func177, by kernel_rfl, by kernel_rfl⟩
theorem fnok178 : FnOk 178 Tryz.f178 := ⟨Tryz.func178, by kernel_rfl, by kernel_rfl⟩
theorem fnok179 : FnOk 179 Tryz.f179 := ⟨Tryz.func179, by kernel_rfl, by kernel_rfl⟩
theorem fnok183 : FnOk 183 Tryz.f183 := ⟨Tryz.func183, by kernel_rfl, by kernel_rfl⟩
theorem fnok206 : FnOk 206 Tryz.f206 := ⟨Tryz.func206, by kernel_rfl, by kernel_rfl⟩
theorem fnok213 : FnOk 213 Tryz.f213 := ⟨Tryz.func213, by kernel_rfl, by kernel_rfl⟩
theorem fnok228 : FnOk 228 Tryz.f228 := ⟨Tryz.func228, by kernel_rfl, by kernel_rfl⟩
theorem fnok232 : FnOk 232 Tryz.f232 := ⟨Tryz.func232, by kernel_rfl, by kernel_rfl⟩
theorem fnok238 : FnOk 238 Tryz.f238 := ⟨Tryz.func238, by kernel_rfl, by kernel_rfl⟩
theorem fnok239 : FnOk 239 Tryz.f239 := ⟨Tryz.func239, by kernel_rfl, by kernel_rfl⟩
theorem fnok240 : FnOk 240 Tryz.f240 := ⟨Tryz.func240, by kernel_rfl, by kernel_rfl⟩
theorem fnok241 : FnOk 241 Tryz.f241 := ⟨Tryz.func241, by kernel_rfl, by kernel_rfl⟩
theorem fnok243 : FnOk 243 Tryz.f243 := ⟨Tryz.func243, by kernel_rfl, by kernel_rfl⟩
theorem fnok244 : FnOk 244 Tryz.f244 := ⟨Tryz.func244, by kernel_rfl, by kernel_rfl⟩
theorem fnok245 : FnOk 245 Tryz.f245 := ⟨Tryz.func245, by kernel_rfl, by kernel_rfl⟩
theorem fnok246 : FnOk 246 Tryz.f246 := ⟨Tryz.func246, by kernel_rfl, by kernel_rfl⟩
theorem fnok247 : FnOk 247 Tryz.f247 := ⟨Tryz.func247, by kernel_rfl, by kernel_rfl⟩
theorem fnok248 : FnOk 248 Tryz.f248 := ⟨Tryz.func248, by kernel_rfl, by kernel_rfl⟩
theorem fnok249 : FnOk 249 Tryz.f249 := ⟨Tryz.func249, by kernel_rfl, by kernel_rfl⟩
theorem fnok250 : FnOk 250 Tryz.f250 := ⟨Tryz.func250, by kernel_rfl, by kernel_rfl⟩
theorem fnok251 : FnOk 251 Tryz.f251 := ⟨Tryz.func251, by kernel_rfl, by kernel_rfl⟩
theorem parok3 : ParOk 3 Tryz.f3 := Nat.le_of_ble_eq_true (by kernel_rfl)
theorem parok4 : ParOk 4 Tryz.f4 := Nat.le_of_ble_eq_true (by kernel_rfl)
theorem parok5 : ParOk 5 Tryz.f5 := Nat.le_of_ble_eq_true (by kernel_rfl)
theorem parok6 : ParOk 6 Tryz.f6 := Nat.le_of_ble_eq_true (by kernel_rfl)
theorem parok7 : ParOk 7 Tryz.f7 := Nat.le_of_ble_eq_true (by kernel_rfl)
theorem parok8 : ParOk 8 Tryz.f8 := Nat.le_of_ble_eq_true (by kernel_rfl)
theorem parok9 : ParOk 9 Tryz.f9 := Nat.le_of_ble_eq_true (by kernel_rfl)
theorem parok10 : ParOk 10 Tryz.f10 := Nat.le_of_ble_eq_true (by kernel_rfl)
theorem parok11 : ParOk 11 Tryz.f11 := Nat.le_of_ble_eq_true (by kernel_rfl)
theorem parok12 : ParOk 12 Tryz.f12 := Nat.le_of_ble_eq_true (by kernel_rfl)
theorem parok13 : ParOk 13 Tryz.f13 := Nat.le_of_ble_eq_true (by kernel_rfl)
theorem parok14 : ParOk 14 Tryz.f14 := Nat.le_of_ble_eq_true (by kernel_rfl)
theorem parok15 : ParOk 15 Tryz.f15 := Nat.le_of_ble_eq_true (by kernel_rfl)
theorem parok16 : ParOk 16 Tryz.f16 := Nat.le_of_ble_eq_true (by kernel_rfl)
theorem parok17 : ParOk 17 Tryz.f17 := Nat.le_of_ble_eq_true (by kernel_rfl)
theorem parok18 : ParOk 18 Tryz.f18 := Nat.le_of_ble_eq_true (by kernel_rfl)
theorem parok19 : ParOk 19 Tryz.f19 := Nat.le_of_ble_eq_true (by kernel_rfl)
theorem parok20 : ParOk 20 Tryz.f20 := Nat.le_of_ble_eq_true (by kernel_rfl)
theorem parok21 : ParOk 21 Tryz.f21 := Nat.le_of_ble_eq_true (by kernel_rfl)
theorem parok22 : ParOk 22 Tryz.f22 := Nat.le_of_ble_eq_true (by kernel_rfl)
theorem parok23 : ParOk 23 Tryz.f23 := Nat.le_of_ble_eq_true (by kernel_rfl)
theorem parok25 : ParOk 25 Tryz.f25 := Nat.le_of_ble_eq_true (by kernel_rfl)
theorem parok27 : ParOk 27 Tryz.f27 := Nat.le_of_ble_eq_true (by kernel_rfl)
theorem parok28 : ParOk 28 Tryz.f28 := Nat.le_of_ble_eq_true (by kernel_rfl)
theorem parok29 : ParOk 29 Tryz.f29 := Nat.le_of_ble_eq_true (by kernel_rfl)
theorem parok30 : ParOk 30 Tryz.f30 := Nat.le_of_ble_eq_true (by kernel_rfl)
theorem parok31 : ParOk 31 Tryz.f31 := Nat.le_of_ble_eq_true (by kernel_rfl)
theorem parok32 : ParOk 32 Tryz.f32 := Nat.le_of_ble_eq_true (by kernel_rfl)
theorem parok33 : ParOk 33 Tryz.f33 := Nat.le_of_ble_eq_true (by kernel_rfl)
theorem parok34 : ParOk 34 Tryz.f34 := Nat.le_of_ble_eq_true (by kernel_rfl)
theorem parok35 : ParOk 35 Tryz.f35 := Nat.le_of_ble_eq_true (by kernel_rfl)
theorem parok37 : ParOk 37 Tryz.f37 := Nat.le_of_ble_eq_true (by kernel_rfl)
theorem parok40 : ParOk 40 Tryz.f40 := Nat.le_of_ble_eq_true (by kernel_rfl)
theorem parok42 : ParOk 42 Tryz.f42 := Nat.le_of_ble_eq_true (by kernel_rfl)
theorem parok44 : ParOk 44 Tryz.f44 := Nat.le_of_ble_eq_true (by kernel_rfl)
theorem parok46 : ParOk 46 Tryz.f46 := Nat.le_of_ble_eq_true (by kernel_rfl)
theorem parok48 : ParOk 48 Tryz.f48 := Nat.le_of_ble_eq_true (by kernel_rfl)
theorem parok50 : ParOk 50 Tryz.f50 := Nat.le_of_ble_eq_true (by kernel_rfl)
theorem parok51 : ParOk 51 Tryz.f51 := Nat.le_of_ble_eq_true (by kernel_rfl)
theorem parok54 : ParOk 54 Tryz.f54 := Nat.le_of_ble_eq_true (by kernel_rfl)
theorem parok55 : ParOk 55 Tryz.f55 := Nat.le_of_ble_eq_true (by kernel_rfl)
theorem parok56 : ParOk 56 Tryz.f56 := Nat.le_of_ble_eq_true (by kernel_rfl)
theorem parok57 : ParOk 57 Tryz.f57 := Nat.le_of_ble_eq_true (by kernel_rfl)
theorem parok58 : ParOk 58 Tryz.f58 := Nat.le_of_ble_eq_true (by kernel_rfl)
theorem parok59 : ParOk 59 Tryz.f59 := Nat.le_of_ble_eq_true (by kernel_rfl)
theorem parok60 : ParOk 60 Tryz.f60 := Nat.le_of_ble_eq_true (by kernel_rfl)
theorem parok62 : ParOk 62 Tryz.f62 := Nat.le_of_ble_eq_true (by kernel_rfl)
theorem parok65 : ParOk 65 Tryz.f65 := Nat.le_of_ble_eq_true (by kernel_rfl)
theorem parok67 : ParOk 67 Tryz.f67 := Nat.le_of_ble_eq_true (by kernel_rfl)
theorem parok69 : ParOk 69 Tryz.f69 := Nat.le_of_ble_eq_true (by kernel_rfl)
theorem parok71 : ParOk 71 Tryz.f71 := Nat.le_of_ble_eq_true (by kernel_rfl)
theorem parok73 : ParOk 73 Tryz.f73 := Nat.le_of_ble_eq_true (by kernel_rfl)
theorem parok74 : ParOk 74 Tryz.f74 := Nat.le_of_ble_eq_true (by kernel_rfl)
theorem parok75 : ParOk 75 Tryz.f75 := Nat.le_of_ble_eq_true (by kernel_rfl)
theorem parok76 : ParOk 76 Tryz.f76 := Nat.le_of_ble_eq_true (by kernel_rfl)
theorem parok77 : ParOk 77 Tryz.f77 := Nat.le_of_ble_eq_true (by kernel_rfl)
theorem parok78 : ParOk 78 Tryz.f78 := Nat.le_of_ble_eq_true (by kernel_rfl)
theorem parok79 : ParOk 79 Tryz.f79 := Nat.le_of_ble_eq_true (by kernel_rfl)
theorem parok80 : ParOk 80 Tryz.f80 := Nat.le_of_ble_eq_true (by kernel_rfl)
theorem parok81 : ParOk 81 Tryz.f81 := Nat.le_of_ble_eq_true (by kernel_rfl)
theorem parok82 : ParOk 82 Tryz.f82 := Nat.le_of_ble_eq_true (by kernel_rfl)
theorem parok83 : ParOk 83 Tryz.f83 := Nat.le_of_ble_eq_true (by kernel_rfl)
theorem parok84 : ParOk 84 Tryz.f84 := Nat.le_of_ble_eq_true (by kernel_rfl)
theorem parok85 : ParOk 85 Tryz.f85 := Nat.le_of_ble_eq_true (by kernel_rfl)
theorem parok86 : ParOk 86 Tryz.f86 := Nat.le_of_ble_eq_true (by kernel_rfl)
theorem parok87 : ParOk 87 Tryz.f87 := Nat.le_of_ble_eq_true (by kernel_rfl)
theorem parok89 : ParOk 89 Tryz.f89 := Nat.le_of_ble_eq_true (by kernel_rfl)
theorem parok92 : ParOk 92 Tryz.f92 := Nat.le_of_ble_eq_true (by kernel_rfl)
theorem parok94 : ParOk 94 Tryz.f94 := Nat.le_of_ble_eq_true (by kernel_rfl)
theorem parok96 : ParOk 96 Tryz.f96 := Nat.le_of_ble_eq_true (by kernel_rfl)
theorem parok97 : ParOk 97 Tryz.f97 := Nat.le_of_ble_eq_true (by kernel_rfl)
theorem parok98 : ParOk 98 Tryz.f98 := Nat.le_of_ble_eq_true (by kernel_rfl)
theorem parok99 : ParOk 99 Tryz.f99 := Nat.le_of_ble_eq_true (by kernel_rfl)
theorem parok100 : ParOk 100 Tryz.f100 := Nat.le_of_ble_eq_true (by kernel_rfl)
theorem parok101 : ParOk 101 Tryz.f101 := Nat.le_of_ble_eq_true (by kernel_rfl)
theorem parok102 : ParOk 102 Tryz.f102 := Nat.le_of_ble_eq_true (by kernel_rfl)
theorem parok103 : ParOk 103 Tryz.f103 := Nat.le_of_ble_eq_true (by kernel_rfl)
theorem parok104 : ParOk 104 Tryz.f104 := Nat.le_of_ble_eq_true (by kernel_rfl)
theorem parok105 : ParOk 105 Tryz.f105 := Nat.le_of_ble_eq_true (by kernel_rfl)
theorem parok106 : ParOk 106 Tryz.f106 := Nat.le_of_ble_eq_true (by kernel_rfl)
theorem parok107 : ParOk 107 Tryz.f107 := Nat.le_of_ble_eq_true (by kernel_rfl)
theorem parok108 : ParOk 108 Tryz.f108 := Nat.le_of_ble_eq_true (by kernel_rfl)
theorem parok109 : ParOk 109 Tryz.f109 := Nat.le_of_ble_eq_true (by kernel_rfl)
theorem parok110 : ParOk 110 Tryz.f110 := Nat.le_of_ble_eq_true (by kernel_rfl)
theorem parok112 : ParOk 112 Tryz.f112 := Nat.le_of_ble_eq_true (by kernel_rfl)
theorem parok113 : ParOk 113 Tryz.f113 := Nat.le_of_ble_eq_true (by kernel_rfl)
theorem parok115 : ParOk 115 Tryz.f115 := Nat.le_of_ble_eq_true (by kernel_rfl)
theorem parok116 : ParOk 116 Tryz.f116 := Nat.le_of_ble_eq_true (by kernel_rfl)
theorem parok117 : ParOk 117 Tryz.f117 := Nat.le_of_ble_eq_true (by kernel_rfl)
theorem parok118 : ParOk 118 Tryz.f118 := Nat.le_of_ble_eq_true (by kernel_rfl)
theorem parok121 : ParOk 121 Tryz.f121 := Nat.le_of_ble_eq_true (by kernel_rfl)
theorem parok126 : ParOk 126 Tryz.f126 := Nat.le_of_ble_eq_true (by kernel_rfl)
theorem parok127 : ParOk 127 Tryz.f127 := Nat.le_of_ble_eq_true (by kernel_rfl)
theorem parok128 : ParOk 128 Tryz.f128 := Nat.le_of_ble_eq_true (by kernel_rfl)
theorem parok129 : ParOk 129 Tryz.f129 := Nat.le_of_ble_eq_true (by kernel_rfl)
theorem parok130 : ParOk 130 Tryz.f130 := Nat.le_of_ble_eq_true (by kernel_rfl)
theorem parok131 : ParOk 131 Tryz.f131 := Nat.le_of_ble_eq_true (by kernel_rfl)
theorem parok134 : ParOk 134 Tryz.f134 := Nat.le_of_ble_eq_true (by kernel_rfl)
theorem parok135 : ParOk 135 Tryz.f135 := Nat.le_of_ble_eq_true (by kernel_rfl)
theorem parok136 : ParOk 136 Tryz.f136 := Nat.le_of_ble_eq_true (by kernel_rfl)
theorem parok137 : ParOk 137 Tryz.f137 := Nat.le_of_ble_eq_true (by kernel_rfl)
theorem parok138 : ParOk 138 Tryz.f138 := Nat.le_of_ble_eq_true (by kernel_rfl)
theorem parok139 : ParOk 139 Tryz.f139 := Nat.le_of_ble_eq_true (by kernel_rfl)
theorem parok145 : ParOk 145 Tryz.f145 := Nat.le_of_ble_eq_true (by kernel_rfl)
theorem parok149 : ParOk 149 Tryz.f149 := Nat.le_of_ble_eq_true (by kernel_rfl)
theorem parok150 : ParOk 150 Tryz.f150 := Nat.le_of_ble_eq_true (by kernel_rfl)
theorem parok151 : ParOk 151 Tryz.f151 := Nat.le_of_ble_eq_true (by kernel_rfl)
theorem parok153 : ParOk 153 Tryz.f153 := Nat.le_of_ble_eq_true (by kernel_rfl)
theorem parok157 : ParOk 157 Tryz.f157 := Nat.le_of_ble_eq_true (by kernel_rfl)
theorem parok162 : ParOk 162 Tryz.f162 := Nat.le_of_ble_eq_true (by kernel_rfl)
theorem parok163 : ParOk 163 Tryz.f163 := Nat.le_of_ble_eq_true (by kernel_rfl)
theorem parok164 : ParOk 164 Tryz.f164 := Nat.le_of_ble_eq_true (by kernel_rfl)
theorem parok165 : ParOk 165 Tryz.f165 := Nat.le_of_ble_eq_true (by kernel_rfl)
theorem parok166 : ParOk 166 Tryz.f166 := Nat.le_of_ble_eq_true (by kernel_rfl)
theorem parok171 : ParOk 171 Tryz.f171 := Nat.le_of_ble_eq_true (by kernel_rfl)
theorem parok174 : ParOk 174 Tryz.f174 := Nat.le_of_ble_eq_true (by kernel_rfl)
theorem parok175 : ParOk 175 Tryz.f175 := Nat.le_of_ble_eq_true (by kernel_rfl)
theorem parok176 : ParOk 176 Tryz.f176 := Nat.le_of_ble_eq_true (by kernel_rfl)
theorem parok177 : ParOk 177 Tryz.f177 := Nat.le_of_ble_eq_true (by kernel_rfl)
theorem parok178 : ParOk 178 Tryz.f178 := Nat.le_of_ble_eq_true (by kernel_rfl)
theorem parok179 : ParOk 179 Tryz.f179 := Nat.le_of_ble_eq_true (by kernel_rfl)
theorem parok183 : ParOk 183 Tryz.f183 := Nat.le_of_ble_eq_true (by kernel_rfl)
theorem parok206 : ParOk 206 Tryz.f206 := Nat.le_of_ble_eq_true (by kernel_rfl)
theorem parok213 : ParOk 213 Tryz.f213 := Nat.le_of_ble_eq_true (by kernel_rfl)
theorem parok228 : ParOk 228 Tryz.f228 := Nat.le_of_ble_eq_true (by kernel_rfl)
theorem parok232 : ParOk 232 Tryz.f232 := Nat.le_of_ble_eq_true (by kernel_rfl)
theorem parok238 : ParOk 238 Tryz.f238 := Nat.le_of_ble_eq_true (by kernel_rfl)
theorem parok239 : ParOk 239 Tryz.f239 := Nat.le_of_ble_eq_true (by kernel_rfl)
theorem parok240 : ParOk 240 Tryz.f240 := Nat.le_of_ble_eq_true (by kernel_rfl)
theorem parok241 : ParOk 241 Tryz.f241 := Nat.le_of_ble_eq_true (by kernel_rfl)
theorem parok243 : ParOk 243 Tryz.f243 := Nat.le_of_ble_eq_true (by kernel_rfl)
theorem parok244 : ParOk 244 Tryz.f244 := Nat.le_of_ble_eq_true (by kernel_rfl)
theorem parok245 : ParOk 245 Tryz.f245 := Nat.le_of_ble_eq_true (by kernel_rfl)
theorem parok246 : ParOk 246 Tryz.f246 := Nat.le_of_ble_eq_true (by kernel_rfl)
theorem parok247 : ParOk 247 Tryz.f247 := Nat.le_of_ble_eq_true (by kernel_rfl)
theorem parok248 : ParOk 248 Tryz.f248 := Nat.le_of_ble_eq_true (by kernel_rfl)
theorem parok249 : ParOk 249 Tryz.f249 := Nat.le_of_ble_eq_true (by kernel_rfl)
theorem parok250 : ParOk 250 Tryz.f250 := Nat.le_of_ble_eq_true (by kernel_rfl)
theorem parok251 : ParOk 251 Tryz.f251 := Nat.le_of_ble_eq_true (by kernel_rfl)
theorem fns_ok : ∀ f fn, look fns f = some fn → FnOk f fn := look_all (Q := FnOk) (l := fns) (all_cons fnok3 (all_cons fnok4 (all_cons fnok5 (all_cons fnok6 (all_cons fnok7 (all_cons fnok8 (all_cons fnok9 (all_cons fnok10 (all_cons fnok11 (all_cons fnok12 (all_cons fnok13 (all_cons fnok14 (all_cons fnok15 (all_cons fnok16 (all_cons fnok17 (all_cons fnok18 (all_cons fnok19 (all_cons fnok20 (all_cons fnok21 (all_cons fnok22 (all_cons fnok23 (all_cons fnok25 (all_cons fnok27 (all_cons fnok28 (all_cons fnok29 (all_cons fnok30 (all_cons fnok31 (all_cons fnok32 (all_cons fnok33 (all_cons fnok34 (all_cons fnok35 (all_cons fnok37 (all_cons fnok40 (all_cons fnok42 (all_cons fnok44 (all_cons fnok46 (all_cons fnok48 (all_cons fnok50 (all_cons fnok51 (all_cons fnok54 (all_cons fnok55 (all_cons fnok56 (all_cons fnok57 (all_cons fnok58 (all_cons fnok59 (all_cons fnok60 (all_cons fnok62 (all_cons fnok65 (all_cons fnok67 (all_cons fnok69 (all_cons fnok71 (all_cons fnok73 (all_cons fnok74 (all_cons fnok75 (all_cons fnok76 (all_cons fnok77 (all_cons fnok78 (all_cons fnok79 (all_cons fnok80 (all_cons fnok81 (all_cons fnok82 (all_cons fnok83 (all_cons fnok84 (all_cons fnok85 (all_cons fnok86 (all_cons fnok87 (all_cons fnok89 (all_cons fnok92 (all_cons fnok94 (all_cons fnok96 (all_cons fnok97 (all_cons fnok98 (all_cons fnok99 (all_cons fnok100 (all_cons fnok101 (all_cons fnok102 (all_cons fnok103 (all_cons fnok104 (all_cons fnok105 (all_cons fnok106 (all_cons fnok107 (all_cons fnok108 (all_cons fnok109 (all_cons fnok110 (all_cons fnok112 (all_cons fnok113 (all_cons fnok115 (all_cons fnok116 (all_cons fnok117 (all_cons fnok118 (all_cons fnok121 (all_cons fnok126 (all_cons fnok127 (all_cons fnok128 (all_cons fnok129 (all_cons fnok130 (all_cons fnok131 (all_cons fnok134 (all_cons fnok135 (all_cons fnok136 (all_cons fnok137 (all_cons fnok138 (all_cons fnok139 (all_cons fnok145 (all_cons fnok149 (all_cons fnok150 (all_cons fnok151 (all_cons fnok153 (all_cons fnok157 (all_cons fnok162 (all_cons fnok163 (all_cons fnok164 (all_cons fnok165 (all_cons fnok166 (all_cons fnok171 (all_cons fnok174 (all_cons fnok175 (all_cons fnok176 (all_cons fnok177 (all_cons fnok178 (all_cons fnok179 (all_cons fnok183 (all_cons fnok206 (all_cons fnok213 (all_cons fnok228 (all_cons fnok232 (all_cons fnok238 (all_cons fnok239 (all_cons fnok240 (all_cons fnok241 (all_cons fnok243 (all_cons fnok244 (all_cons fnok245 (all_cons fnok246 (all_cons fnok247 (all_cons fnok248 (all_cons fnok249 (all_cons fnok250 (all_cons fnok251 (all_cons fnok24 (all_cons fnok26 (all_cons fnok36 (all_cons fnok38 (all_cons fnok39 (all_cons fnok41 (all_cons fnok43 (all_cons fnok45 (all_cons fnok47 (all_cons fnok49 (all_cons fnok52 (all_cons fnok53 (all_cons fnok61 (all_cons fnok63 (all_cons fnok64 (all_cons fnok66 (all_cons fnok68 (all_cons fnok70 (all_cons fnok72 (all_cons fnok88 (all_cons fnok90 (all_cons fnok91 (all_cons fnok111 (all_cons fnok114 (all_cons fnok123 (all_cons fnok125 (all_cons fnok132 (all_cons fnok133 (all_cons fnok140 (all_cons fnok141 (all_cons fnok142 (all_cons fnok143 (all_cons fnok172 (all_cons fnok180 (all_cons fnok181 (all_cons fnok182 (all_cons fnok214 (all_cons fnok229 (all_cons fnok231 (all_cons fnok233 (all_cons fnok236 (all_cons fnok237 (all_cons fnok242 all_nil))))))))))))))))))))))))))))))))))))))))))))))))))))))))))))))))))))))))))))))))))))))))))))))))))))))))))))))))))))))))))))))))))))))))))))))))))))))))))))))))))))))))))))))))))))))
theorem ctx_ok : CtxOk Tryz.prog CT := ⟨tis_ok, fns_ok, by kernel_rfl, inv_keeps⟩
def PtOk (i : Nat) (ts : List Ty) : Prop := ∀ fn, look fns (CT.fid i) = some fn → ts.length ≤ fn.ntmps
theorem pt_ok {i : Nat} {ts : List Ty} {f : Func} (e : look fns (CT.fid i) = some f) (h : ts.length ≤ f.ntmps) : PtOk i ts := fun fn hf => by rw [e] at hf; cases hf; exact h
theorem ptok3 : PtOk 3 ((look ptsL 3).getD []) := pt_ok (f := Tryz.f3) (by kernel_rfl) parok3
theorem ptok4 : PtOk 4 ((look ptsL 4).getD []) := pt_ok (f := Tryz.f4) (by kernel_rfl) parok4
theorem ptok5 : PtOk 5 ((look ptsL 5).getD []) := pt_ok (f := Tryz.f5) (by kernel_rfl) parok5
theorem ptok6 : PtOk 6 ((look ptsL 6).getD []) := pt_ok (f := Tryz.f6) (by kernel_rfl) parok6
theorem ptok7 : PtOk 7 ((look ptsL 7).getD []) := pt_ok (f := Tryz.f7) (by kernel_rfl) parok7
theorem ptok8 : PtOk 8 ((look ptsL 8).getD []) := pt_ok (f := Tryz.f8) (by kernel_rfl) parok8
theorem ptok9 : PtOk 9 ((look ptsL 9).getD []) := pt_ok (f := Tryz.f9) (by kernel_rfl) parok9
theorem ptok10 : PtOk 10 ((look ptsL 10).getD []) := pt_ok (f := Tryz.f10) (by kernel_rfl) parok10
theorem ptok11 : PtOk 11 ((look ptsL 11).getD []) := pt_ok (f := Tryz.f11) (by kernel_rfl) parok11
theorem ptok12 : PtOk 12 ((look ptsL 12).getD []) := pt_ok (f := Tryz.f12) (by kernel_rfl) parok12
theorem ptok13 : PtOk 13 ((look ptsL 13).getD []) := pt_ok (f := Tryz.f13) (by kernel_rfl) parok13
theorem ptok14 : PtOk 14 ((look ptsL 14).getD []) := pt_ok (f := Tryz.f14) (by kernel_rfl) parok14
theorem ptok15 : PtOk 15 ((look ptsL 15).getD []) := pt_ok (f := Tryz.f15) (by kernel_rfl) parok15
theorem ptok16 : PtOk 16 ((look ptsL 16).getD []) := pt_ok (f := Tryz.f16) (by kernel_rfl) parok16
theorem ptok17 : PtOk 17 ((look ptsL 17).getD []) := pt_ok (f := Tryz.f17) (by kernel_rfl) parok17
theorem ptok18 : PtOk 18 ((look ptsL 18).getD []) := pt_ok (f := Tryz.f18) (by kernel_rfl) parok18
theorem ptok19 : PtOk 19 ((look ptsL 19).getD []) := pt_ok (f := Tryz.f19) (by kernel_rfl) parok19
theorem ptok20 : PtOk 20 ((look ptsL 20).getD []) := pt_ok (f := Tryz.f20) (by kernel_rfl) parok20
theorem ptok21 : PtOk 21 ((look ptsL 21).getD []) := pt_ok (f := Tryz.f21) (by kernel_rfl) parok21
theorem ptok22 : PtOk 22 ((look ptsL 22).getD []) := pt_ok (f := Tryz.f22) (by kernel_rfl) parok22
theorem ptok23 : PtOk 23 ((look ptsL 23).getD []) := pt_ok (f := Tryz.f23) (by kernel_rfl) parok23
theorem ptok25 : PtOk 25 ((look ptsL 25).getD []) := pt_ok (f := Tryz.f25) (by kernel_rfl) parok25
theorem ptok27 : PtOk 27 ((look ptsL 27).getD []) := pt_ok (f := Tryz.f27) (by kernel_rfl) parok27
theorem ptok28 : PtOk 28 ((look ptsL 28).getD []) := pt_ok (f := Tryz.f28) (by kernel_rfl) parok28
theorem ptok29 : PtOk 29 ((look ptsL 29).getD []) := pt_ok (f := Tryz.f29) (by kernel_rfl) parok29
theorem ptok30 : PtOk 30 ((look ptsL 30).getD []) := pt_ok (f := Tryz.f30) (by kernel_rfl) parok30
theorem ptok31 : PtOk 31 ((look ptsL 31).getD []) := pt_ok (f := Tryz.f31) (by kernel_rfl) parok31
theorem ptok32 : PtOk 32 ((look ptsL 32).getD []) := pt_ok (f := Tryz.f32) (by kernel_rfl) parok32
theorem ptok33 : PtOk 33 ((look ptsL 33).getD []) := pt_ok (f := Tryz.f33) (by kernel_rfl) parok33
theorem ptok34 : PtOk 34 ((look ptsL 34).getD []) := pt_ok (f := Tryz.f34) (by kernel_rfl) parok34
theorem ptok35 : PtOk 35 ((look ptsL 35).getD []) := pt_ok (f := Tryz.f35) (by kernel_rfl) parok35
theorem ptok37 : PtOk 37 ((look ptsL 37).getD []) := pt_ok (f := Tryz.f37) (by kernel_rfl) parok37
theorem ptok40 : PtOk 40 ((look ptsL 40).getD []) := pt_ok (f := Tryz.f40) (by kernel_rfl) parok40
theorem ptok42 : PtOk 42 ((look ptsL 42).getD []) := pt_ok (f := Tryz.f42) (by kernel_rfl) parok42
theorem ptok44 : PtOk 44 ((look ptsL 44).getD []) := pt_ok (f := Tryz.f44) (by kernel_rfl) parok44
theorem ptok46 : PtOk 46 ((look ptsL 46).getD []) := pt_ok (f := Tryz.f46) (by kernel_rfl) parok46
theorem ptok48 : PtOk 48 ((look ptsL 48).getD []) := pt_ok (f := Tryz.f48) (by kernel_rfl) parok48
theorem ptok50 : PtOk 50 ((look ptsL 50).getD []) := pt_ok (f := Tryz.f50) (by kernel_rfl) parok50
theorem ptok51 : PtOk 51 ((look ptsL 51).getD []) := pt_ok (f := Tryz.f51) (by kernel_rfl) parok51
theorem ptok54 : PtOk 54 ((look ptsL 54).getD []) := pt_ok (f := Tryz.f54) (by kernel_rfl) parok54
theorem ptok55 : PtOk 55 ((look ptsL 55).getD []) := pt_ok (f := Tryz.f55) (by kernel_rfl) parok55
theorem ptok56 : PtOk 56 ((look ptsL 56).getD []) := pt_ok (f := Tryz.f56) (by kernel_rfl) parok56
theorem ptok57 : PtOk 57 ((look ptsL 57).getD []) := pt_ok (f := Tryz.f57) (by kernel_rfl) parok57
theorem ptok58 : PtOk 58 ((look ptsL 58).getD []) := pt_ok (f := Tryz.f58) (by kernel_rfl) parok58
theorem ptok59 : PtOk 59 ((look ptsL 59).getD []) := pt_ok (f := Tryz.f59) (by kernel_rfl) parok59
theorem ptok60 : PtOk 60 ((look ptsL 60).getD []) := pt_ok (f := Tryz.f60) (by kernel_rfl) parok60
theorem ptok62 : PtOk 62 ((look ptsL 62).getD []) := pt_ok (f := Tryz.f62) (by kernel_rfl) parok62
theorem ptok65 : PtOk 65 ((look ptsL 65).getD []) := pt_ok (f := Tryz.f65) (by kernel_rfl) parok65
theorem ptok67 : PtOk 67 ((look ptsL 67).getD []) := pt_ok (f := Tryz.f67) (by kernel_rfl) parok67
theorem ptok69 : PtOk 69 ((look ptsL 69).getD []) := pt_ok (f := Tryz.f69) (by kernel_rfl) parok69
theorem ptok71 : PtOk 71 ((look ptsL 71).getD []) := pt_ok (f := Tryz.f71) (by kernel_rfl) parok71
theorem ptok73 : PtOk 73 ((look ptsL 73).getD []) := pt_ok (f := Tryz.f73) (by kernel_rfl) parok73
theorem ptok74 : PtOk 74 ((look ptsL 74).getD []) := pt_ok (f := Tryz.f74) (by kernel_rfl) parok74
theorem ptok75 : PtOk 75 ((look ptsL 75).getD []) := pt_ok (f := Tryz.f75) (by kernel_rfl) parok75
theorem ptok76 : PtOk 76 ((look ptsL 76).getD []) := pt_ok (f := Tryz.f76) (by kernel_rfl) parok76
theorem ptok77 : PtOk 77 ((look ptsL 77).getD []) := pt_ok (f := Tryz.f77) (by kernel_rfl) parok77
theorem ptok78 : PtOk 78 ((look ptsL 78).getD []) := pt_ok (f := Tryz.f78) (by kernel_rfl) parok78
theorem ptok79 : PtOk 79 ((look ptsL 79).getD []) := pt_ok (f := Tryz.f79) (by kernel_rfl) parok79
theorem ptok80 : PtOk 80 ((look ptsL 80).getD []) := pt_ok (f := Tryz.f80) (by kernel_rfl) parok80
theorem ptok81 : PtOk 81 ((look ptsL 81).getD []) := pt_ok (f := Tryz.f81) (by kernel_rfl) parok81
theorem ptok82 : PtOk 82 ((look ptsL 82).getD []) := pt_ok (f := Tryz.f82) (by kernel_rfl) parok82
theorem ptok83 : PtOk 83 ((look ptsL 83).getD []) := pt_ok (f := Tryz.f83) (by kernel_rfl) parok83
theorem ptok84 : PtOk 84 ((look ptsL 84).getD []) := pt_ok (f := Tryz.f84) (by kernel_rfl) parok84
theorem ptok85 : PtOk 85 ((look ptsL 85).getD []) := pt_ok (f := Tryz.f85) (by kernel_rfl) parok85
theorem ptok86 : PtOk 86 ((look ptsL 86).getD []) := pt_ok (f := Tryz.f86) (by kernel_rfl) parok86
theorem ptok87 : PtOk 87 ((look ptsL 87).getD []) := pt_ok (f := Tryz.f87) (by kernel_rfl) parok87
theorem ptok89 : PtOk 89 ((look ptsL 89).getD []) := pt_ok (f := Tryz.f89) (by kernel_rfl) parok89
theorem ptok92 : PtOk 92 ((look ptsL 92).getD []) := pt_ok (f := Tryz.f92) (by kernel_rfl) parok92
theorem ptok94 : PtOk 94 ((look ptsL 94).getD []) := pt_ok (f := Tryz.f94) (by kernel_rfl) parok94
theorem ptok96 : PtOk 96 ((look ptsL 96).getD []) := pt_ok (f := Tryz.f96) (by kernel_rfl) parok96
theorem ptok97 : PtOk 97 ((look ptsL 97).getD []) := pt_ok (f := Tryz.f97) (by kernel_rfl) parok97
theorem ptok98 : PtOk 98 ((look ptsL 98).getD []) := pt_ok (f := Tryz.f98) (by kernel_rfl) parok98
theorem ptok99 : PtOk 99 ((look ptsL 99).getD []) := pt_ok (f := Tryz.f99) (by kernel_rfl) parok99
theorem ptok100 : PtOk 100 ((look ptsL 100).getD []) := pt_ok (f := Tryz.f100) (by kernel_rfl) parok100
theorem ptok101 : PtOk 101 ((look ptsL 101).getD []) := pt_ok (f := Tryz.f101) (by kernel_rfl) parok101
theorem ptok102 : PtOk 102 ((look ptsL 102).getD []) := pt_ok (f := Tryz.f102) (by kernel_rfl) parok102
theorem ptok103 : PtOk 103 ((look ptsL 103).getD []) := pt_ok (f := Tryz.f103) (by kernel_rfl) parok103
theorem ptok104 : PtOk 104 ((look ptsL 104).getD []) := pt_ok (f := Tryz.f104) (by kernel_rfl) parok104
theorem ptok105 : PtOk 105 ((look ptsL 105).getD []) := pt_ok (f := Tryz.f105) (by kernel_rfl) parok105
theorem ptok106 : PtOk 106 ((look ptsL 106).getD []) := pt_ok (f := Tryz.f106) (by kernel_rfl) parok106
theorem ptok107 : PtOk 107 ((look ptsL 107).getD []) := pt_ok (f := Tryz.f107) (by kernel_rfl) parok107
theorem ptok108 : PtOk 108 ((look ptsL 108).getD []) := pt_ok (f := Tryz.f108) (by kernel_rfl) parok108
theorem ptok109 : PtOk 109 ((look ptsL 109).getD []) := pt_ok (f := Tryz.f109) (by kernel_rfl) parok109
theorem ptok110 : PtOk 110 ((look ptsL 110).getD []) := pt_ok (f := Tryz.f110) (by kernel_rfl) parok110
theorem ptok112 : PtOk 112 ((look ptsL 112).getD []) := pt_ok (f := Tryz.f112) (by kernel_rfl) parok112
theorem ptok113 : PtOk 113 ((look ptsL 113).getD []) := pt_ok (f := Tryz.f113) (by kernel_rfl) parok113
theorem ptok115 : PtOk 115 ((look ptsL 115).getD []) := pt_ok (f := Tryz.f115) (by kernel_rfl) parok115
theorem ptok116 : PtOk 116 ((look ptsL 116).getD []) := pt_ok (f := Tryz.f116) (by kernel_rfl) parok116
theorem ptok117 : PtOk 117 ((look ptsL 117).getD []) := pt_ok (f := Tryz.f117) (by kernel_rfl) parok117
theorem ptok118 : PtOk 118 ((look ptsL 118).getD []) := pt_ok (f := Tryz.f118) (by kernel_rfl) parok118
theorem ptok121 : PtOk 121 ((look ptsL 121).getD []) := pt_ok (f := Tryz.f121) (by kernel_rfl) parok121
theorem ptok126 : PtOk 126 ((look ptsL 126).getD []) := pt_ok (f := Tryz.f126) (by kernel_rfl) parok126
theorem ptok127 : PtOk 127 ((look ptsL 127).getD []) := pt_ok (f := Tryz.f127) (by kernel_rfl) parok127
theorem ptok128 : PtOk 128 ((look ptsL 128).getD []) := pt_ok (f := Tryz.f128) (by kernel_rfl) parok128
theorem ptok129 : PtOk 129 ((look ptsL 129).getD []) := pt_ok (f := Tryz.f129) (by kernel_rfl) parok129
theorem ptok130 : PtOk 130 ((look ptsL 130).getD []) := pt_ok (f := Tryz.f130) (by kernel_rfl) parok130
theorem ptok131 : PtOk 131 ((look ptsL 131).getD []) := pt_ok (f := Tryz.f131) (by kernel_rfl) parok131
theorem ptok134 : PtOk 134 ((look ptsL 134).getD []) := pt_ok (f := Tryz.f134) (by kernel_rfl) parok134
theorem ptok135 : PtOk 135 ((look ptsL 135).getD []) := pt_ok (f := Tryz.f135) (by kernel_rfl) parok135
theorem ptok136 : PtOk 136 ((look ptsL 136).getD []) := pt_ok (f := Tryz.f136) (by kernel_rfl) parok136
theorem ptok137 : PtOk 137 ((look ptsL 137).getD []) := pt_ok (f := Tryz.f137) (by kernel_rfl) parok137
theorem ptok138 : PtOk 138 ((look ptsL 138).getD []) := pt_ok (f := Tryz.f138) (by kernel_rfl) parok138
theorem ptok139 : PtOk 139 ((look ptsL 139).getD []) := pt_ok (f := Tryz.f139) (by kernel_rfl) parok139
theorem ptok145 : PtOk 145 ((look ptsL 145).getD []) := pt_ok (f := Tryz.f145) (by kernel_rfl) parok145
theorem ptok149 : PtOk 149 ((look ptsL 149).getD []) := pt_ok (f := Tryz.f149) (by kernel_rfl) parok149
theorem ptok150 : PtOk 150 ((look ptsL 150).getD []) := pt_ok (f := Tryz.f150) (by kernel_rfl) parok150
theorem ptok151 : PtOk 151 ((look ptsL 151).getD []) := pt_ok (f := Tryz.f151) (by kernel_rfl) parok151
theorem ptok153 : PtOk 153 ((look ptsL 153).getD []) := pt_ok (f := Tryz.f153) (by kernel_rfl) parok153
theorem ptok157 : PtOk 157 ((look ptsL 157).getD []) := pt_ok (f := Tryz.f157) (by kernel_rfl) parok157
theorem ptok162 : PtOk 162 ((look ptsL 162).getD []) := pt_ok (f := Tryz.f162) (by kernel_rfl) parok162
theorem ptok163 : PtOk 163 ((look ptsL 163).getD []) := pt_ok (f := Tryz.f163) (by kernel_rfl) parok163
theorem ptok164 : PtOk 164 ((look ptsL 164).getD []) := pt_ok (f := Tryz.f164) (by kernel_rfl) parok164
theorem ptok165 : PtOk 165 ((look ptsL 165).getD []) := pt_ok (f := Tryz.f165) (by kernel_rfl) parok165
theorem ptok166 : PtOk 166 ((look ptsL 166).getD []) := pt_ok (f := Tryz.f166) (by kernel_rfl) parok166
theorem ptok171 : PtOk 171 ((look ptsL 171).getD []) := pt_ok (f := Tryz.f171) (by kernel_rfl) parok171
theorem ptok174 : PtOk 174 ((look ptsL 174).getD []) := pt_ok (f := Tryz.f174) (by kernel_rfl) parok174
theorem ptok175 : PtOk 175 ((look ptsL 175).getD []) := pt_ok (f := Tryz.f175) (by kernel_rfl) parok175
theorem ptok176 : PtOk 176 ((look ptsL 176).getD []) := pt_ok (f := Tryz.f176) (by kernel_rfl) parok176
theorem ptok177 : PtOk 177 ((look ptsL 177).getD []) := pt_ok (f := Tryz.f177) (by kernel_rfl) parok177
theorem ptok178 : PtOk 178 ((look ptsL 178).getD []) := pt_ok (f := Tryz.f178) (by kernel_rfl) parok178
theorem ptok179 : PtOk 179 ((look ptsL 179).getD []) := pt_ok (f := Tryz.f179) (by kernel_rfl) parok179
theorem ptok183 : PtOk 183 ((look ptsL 183).getD []) := pt_ok (f := Tryz.f183) (by kernel_rfl) parok183
theorem ptok206 : PtOk 206 ((look ptsL 206).getD []) := pt_ok (f := Tryz.f206) (by kernel_rfl) parok206
theorem ptok213 : PtOk 213 ((look ptsL 213).getD []) := pt_ok (f := Tryz.f213) (by kernel_rfl) parok213
theorem ptok228 : PtOk 228 ((look ptsL 228).getD []) := pt_ok (f := Tryz.f228) (by kernel_rfl) parok228
theorem ptok232 : PtOk 232 ((look ptsL 232).getD []) := pt_ok (f := Tryz.f232) (by kernel_rfl) parok232
theorem ptok238 : PtOk 238 ((look ptsL 238).getD []) := pt_ok (f := Tryz.f238) (by kernel_rfl) parok238
theorem ptok239 : PtOk 239 ((look ptsL 239).getD []) := pt_ok (f := Tryz.f239) (by kernel_rfl) parok239
theorem ptok240 : PtOk 240 ((look ptsL 240).getD []) := pt_ok (f := Tryz.f240) (by kernel_rfl) parok240
theorem ptok241 : PtOk 241 ((look ptsL 241).getD []) := pt_ok (f := Tryz.f241) (by kernel_rfl) parok241
theorem ptok243 : PtOk 243 ((look ptsL 243).getD []) := pt_ok (f := Tryz.f243) (by kernel_rfl) parok243
theorem ptok244 : PtOk 244 ((look ptsL 244).getD []) := pt_ok (f := Tryz.f244) (by kernel_rfl) parok244
theorem ptok245 : PtOk 245 ((look ptsL 245).getD []) := pt_ok (f := Tryz.f245) (by kernel_rfl) parok245
theorem ptok246 : PtOk 246 ((look ptsL 246).getD []) := pt_ok (f := Tryz.f246) (by kernel_rfl) parok246
theorem ptok247 : PtOk 247 ((look ptsL 247).getD []) := pt_ok (f := Tryz.f247) (by kernel_rfl) parok247
theorem ptok248 : PtOk 248 ((look ptsL 248).getD []) := pt_ok (f := Tryz.f248) (by kernel_rfl) parok248
theorem ptok249 : PtOk 249 ((look ptsL 249).getD []) := pt_ok (f := Tryz.f249) (by kernel_rfl) parok249
theorem ptok250 : PtOk 250 ((look ptsL 250).getD []) := pt_ok (f := Tryz.f250) (by kernel_rfl) parok250
theorem ptok251 : PtOk 251 ((look ptsL 251).getD []) := pt_ok (f := Tryz.f251) (by kernel_rfl) parok251
theorem pts_all : ∀ i ts, look ptsL i = some ts → PtOk i ts := look_all (Q := PtOk) (l := ptsL) (all_cons ptok3 (all_cons ptok4 (all_cons ptok5 (all_cons ptok6 (all_cons ptok7 (all_cons ptok8 (all_cons ptok9 (all_cons ptok10 (all_cons ptok11 (all_cons ptok12 (all_cons ptok13 (all_cons ptok14 (all_cons ptok15 (all_cons ptok16 (all_cons ptok17 (all_cons ptok18 (all_cons ptok19 (all_cons ptok20 (all_cons ptok21 (all_cons ptok22 (all_cons ptok23 (all_cons ptok25 (all_cons ptok27 (all_cons ptok28 (all_cons ptok29 (all_cons ptok30 (all_cons ptok31 (all_cons ptok32 (all_cons ptok33 (all_cons ptok34 (all_cons ptok35 (all_cons ptok37 (all_cons ptok40 (all_cons ptok42 (all_cons ptok44 (all_cons ptok46 (all_cons ptok48 (all_cons ptok50 (all_cons ptok51 (all_cons ptok54 (all_cons ptok55 (all_cons ptok56 (all_cons ptok57 (all_cons ptok58 (all_cons ptok59 (all_cons ptok60 (all_cons ptok62 (all_cons ptok65 (all_cons ptok67 (all_cons ptok69 (all_cons ptok71 (all_cons ptok73 (all_cons ptok74 (all_cons ptok75 (all_cons ptok76 (all_cons ptok77 (all_cons ptok78 (all_cons ptok79 (all_cons ptok80 (all_cons ptok81 (all_cons ptok82 (all_cons ptok83 (all_cons ptok84 (all_cons ptok85 (all_cons ptok86 (all_cons ptok87 (all_cons ptok89 (all_cons ptok92 (all_cons ptok94 (all_cons ptok96 (all_cons ptok97 (all_cons ptok98 (all_cons ptok99 (all_cons ptok100 (all_cons ptok101 (all_cons ptok102 (all_cons ptok103 (all_cons ptok104 (all_cons ptok105 (all_cons ptok106 (all_cons ptok107 (all_cons ptok108 (all_cons ptok109 (all_cons ptok110 (all_cons ptok112 (all_cons ptok113 (all_cons ptok115 (all_cons ptok116 (all_cons ptok117 (all_cons ptok118 (all_cons ptok121 (all_cons ptok126 (all_cons ptok127 (all_cons ptok128 (all_cons ptok129 (all_cons ptok130 (all_cons ptok131 (all_cons ptok134 (all_cons ptok135 (all_cons ptok136 (all_cons ptok137 (all_cons ptok138 (all_cons ptok139 (all_cons ptok145 (all_cons ptok149 (all_cons ptok150 (all_cons ptok151 (all_cons ptok153 (all_cons ptok157 (all_cons ptok162 (all_cons ptok163 (all_cons ptok164 (all_cons ptok165 (all_cons ptok166 (all_cons ptok171 (all_cons ptok174 (all_cons ptok175 (all_cons ptok176 (all_cons ptok177 (all_cons ptok178 (all_cons ptok179 (all_cons ptok183 (all_cons ptok206 (all_cons ptok213 (all_cons ptok228 (all_cons ptok232 (all_cons ptok238 (all_cons ptok239 (all_cons ptok240 (all_cons ptok241 (all_cons ptok243 (all_cons ptok244 (all_cons ptok245 (all_cons ptok246 (all_cons ptok247 (all_cons ptok248 (all_cons ptok249 (all_cons ptok250 (all_cons ptok251 all_nil)))))))))))))))))))))))))))))))))))))))))))))))))))))))))))))))))))))))))))))))))))))))))))))))))))))))))))))))))))))))))))))))))))))))))))
theorem pars_ok : ∀ i fn, CT.fn (CT.fid i) = some fn → (CT.pts i).length ≤ fn.ntmps := fun i fn h => by
  show ((look ptsL i).getD []).length ≤ _
  cases hp : look ptsL i with
  | none => exact Nat.zero_le _
  | some ts => exact pts_all i ts hp fn h
theorem sound (hE : ExtOk Tryz.prog CT) : ∀ k, SpecOk Tryz.prog (sem CT k) ∧ StageOk Tryz.prog (sem CT k) := sem_sound ctx_ok hE pars_ok
theorem ext_ok : ExtOk Tryz.prog CT := ext_of (l := extL) rfl (allE_cons (ext_at (H.named_ok)) (allE_cons (ext_at (Q.rgcd_ok inv_max)) (allE_cons (ext_at (Q.rbits_ok inv_max)) (allE_cons (ext_at (Q.rof_ok inv_max)) (allE_cons (ext_at (cut_ok inv_max)) (allE_cons (ext_at (repeat_ok)) (allE_cons (ext_at (Q.rtrim_ok inv_max)) (allE_cons (ext_at (Q.rdiv_ok inv_max)) (allE_cons (ext_at (index_ok inv_max)) (allE_cons (ext_at (no_ok)) (allE_cons (ext_at (split_ok inv_max)) (allE_cons (ext_at (join_ok)) (allE_cons (ext_at (Q.div_ok inv_max)) (allE_cons (ext_at (Q.cmp_ok inv_max)) (allE_cons (ext_at (Q.add_ok inv_max)) (allE_cons (ext_at (Q.dec_ok inv_keeps inv_max)) (allE_cons (ext_at (Q.small_ok inv_max)) (allE_cons (ext_at (Q.trim_ok inv_max)) (allE_cons (ext_at (Q.pow_ok inv_max)) (allE_cons (ext_at (Q.of_ok inv_max)) (allE_cons (ext_at (Q.mul_ok inv_max)) (allE_cons (ext_at (Q.gcd_ok inv_max)) allE_nil))))))))))))))))))))))
theorem spec_ok (k : Nat) : SpecP Tryz.prog (sem CT k) := spec_plain ctx_ok (sound ext_ok k).1
end Go.Proofs.YtpdfjgooaaailaaGreatDoor.K
