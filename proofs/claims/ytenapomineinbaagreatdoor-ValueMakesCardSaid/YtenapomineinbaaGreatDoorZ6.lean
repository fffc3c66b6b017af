/- Part 6 of the proof: the machine, the tables and the pure laws that the last text joins. -/
import Derived.Test.YtenapomineinbaaGreatDoorZ5
import Derived.Test.YtenapomineinbaaGreatDoorZ4
import Derived.WalkKit
import Derived.BigCall
import Derived.Maps.AppendAt
import Derived.Shelf.Strings.BuilderK
import Derived.Test.YtenapomineinbaaGreatDoorZ3
import Derived.Test.YtenapomineinbaaGreatDoorProg
/- abacist/dec.Text: a natural in decimal digits: the contract, by hand (a strings.Builder). -/
namespace Go.Proofs.YtenapomineinbaaGreatDoor.Q
open Go Go.RowKit Go.Shelf
open Go.Proofs.YtenapomineinbaaGreatDoor.K (Ty den tyL RetT CallT cond_some ret_str denStr DenL DenL_2 DenL_1 DenV DeepC ResL_plain hasOwn oneV MaxLen)
open Go.Proofs.YtenapomineinbaaGreatDoor.P (nat val divmod small nat_val_length len_mono val_nat nat_eq_nil nat_zero)
set_option linter.unusedVariables false
set_option linter.unusedSimpArgs false
theorem writeStr (B b : Nat) (bs : List Value) (s : ByteArray) (w : World) (h : Lib.IsBuilderF 133 5 B b bs w) (hlen : bs.length + s.size ≤ 140737488355328) (hBw : B ≤ w.heap.size) :
    Calls Tryz.prog 140 #[.pointer (some ⟨b, 0, none⟩), .string s] w fun e w' => e = .returned (.tuple #[.int .i64 s.size, .nilIface]) ∧ (Lib.BuilderAtF 133 5 B b (.pointer (some ⟨b, 0, none⟩)) (bs ++ Lib.strCells s) w' ∧ Below B w w' ∧ Lib.OthersKept 5 (some b) w w') :=
  Any.Builder_WriteString_k (P := Tryz.prog) (ρ := Tryz.lays105_ren) { Tryz.lays105 with } Tryz.Builder_Extra_105 B b bs s w h hlen hBw
theorem ret_any {ts : List Ty} {w w' : World} {fz0 : Nat → Prop} {r : den (tyL ts)} {e : Ending} (ho : hasOwn (tyL ts) = false) (h : RetT ts w fz0 r e w') : ∃ (ok : Nat → Prop) (vs : List Value), e = .returned (oneV vs) ∧ Below w.heap.size w w' ∧ DenL w'.heap ok ts r vs := by
  obtain ⟨v, rfl, hb, ow, ok, vs, _, _, _, rfl, hres⟩ := h
  exact ⟨ok, vs, rfl, hb, (ResL_plain ts ho hres).2⟩
theorem denS {hp : Array Obj} {ok : Nat → Prop} {r : List UInt8} {v : Value} (h : DenV hp ok .str r v) : v = .string ⟨r.toArray⟩ := by
  have h : Ty.str ≠ .unit ∧ [v] = [Value.string ⟨r.toArray⟩] := h
  simpa using h.2
theorem denI {hp : Array Obj} {ok : Nat → Prop} {k : IntKind} {r : Int} {v : Value} (h : DenV hp ok (.int k) r v) : v = .int k r := by
  have h : Ty.int k ≠ .unit ∧ [v] = [Value.int k r] := h
  simpa using h.2
theorem denB {hp : Array Obj} {ok : Nat → Prop} {r : Bool} {v : Value} (h : DenV hp ok .bool r v) : v = .bool r := by
  have h : Ty.bool ≠ .unit ∧ [v] = [Value.bool r] := h
  simpa using h.2
theorem denL2 {hp : Array Obj} {ok : Nat → Prop} {t u : Ty} {ts : List Ty} {x : den t} {y : den (tyL (u :: ts))} {v : Value} {vs : List Value} (h : DenV hp ok t x v) (h' : DenL hp ok (u :: ts) y vs) : DenL hp ok (t :: u :: ts) ((x, y) : den t × den (tyL (u :: ts))) (v :: vs) := by
  show ∃ v0 vs0, v :: vs = v0 :: vs0 ∧ DenV hp ok t x v0 ∧ DenL hp ok (u :: ts) y vs0
  exact ⟨v, vs, rfl, h, h'⟩
theorem denS' {hp : Array Obj} {ok : Nat → Prop} (r : List UInt8) : DenV hp ok .str r (.string ⟨r.toArray⟩) := by
  show Ty.str ≠ .unit ∧ [Value.string ⟨r.toArray⟩] = [Value.string ⟨r.toArray⟩]
  exact ⟨by simp, rfl⟩
theorem denI' {hp : Array Obj} {ok : Nat → Prop} (k : IntKind) (r : Int) : DenV hp ok (.int k) r (.int k r) := by
  show Ty.int k ≠ .unit ∧ [Value.int k r] = [Value.int k r]
  exact ⟨by simp, rfl⟩
theorem denN {hp : Array Obj} {ok : Nat → Prop} (k : IntKind) (r : Int) : DenL hp ok [.int k] r [.int k r] := by
  show ∃ v, [Value.int k r] = [v] ∧ DenV hp ok (.int k) r v
  exact ⟨_, rfl, denI' k r⟩
variable {inv : World → Prop}
theorem cTrim (h : CallT Tryz.prog 136 [.str] [.str] inv trimQ) (s : List UInt8) (hs : s.length ≤ 1000000000) (W : World) (hi : inv W) :
    Calls Tryz.prog 136 #[.string ⟨s.toArray⟩] W fun e w' => e = .returned (.string ⟨(nat (val s)).toArray⟩) ∧ Below W.heap.size W w' := by
  have hg : trimQ s = some (nat (val s)) := by unfold trimQ ok1; rw [show Nat.ble s.length 1000000000 = true from Nat.ble_eq_true_of_le hs, cond_true, P.trimB]
  exact (h s _ hg W (fun _ => False) [.string ⟨s.toArray⟩] (fun _ h => h.elim) hi (denStr s)).mono fun e w' hr => ret_str hr
theorem cOf (h : CallT Tryz.prog 137 [.int .u64] [.str] inv ofQ) (W : World) (hi : inv W) :
    Calls Tryz.prog 137 #[.int .u64 1000000000] W fun e w' => e = .returned (.string ⟨(nat 1000000000).toArray⟩) ∧ Below W.heap.size W w' :=
  (h (1000000000 : Int) (nat 1000000000) rfl W (fun _ => False) [.int .u64 1000000000] (fun _ h => h.elim) hi ⟨_, rfl, denI' .u64 1000000000⟩).mono fun e w' hr => ret_str hr
theorem cDiv (h : CallT Tryz.prog 68 [.str, .str] [.str, .str, .int .i64] inv divQ) (m : Nat) (hm : (nat m).length ≤ 1000000000) (W : World) (hi : inv W) :
    Calls Tryz.prog 68 #[.string ⟨(nat m).toArray⟩, .string ⟨(nat 1000000000).toArray⟩] W fun e w' =>
      e = .returned (.tuple #[.string ⟨(nat (m / 1000000000)).toArray⟩, .string ⟨(nat (m % 1000000000)).toArray⟩, .int .i64 0]) ∧ Below W.heap.size W w' := by
  have hl : (nat 1000000000).length ≤ 1000000000 := by decide
  have hg : divQ (nat m, nat 1000000000) = some (nat (m / 1000000000), nat (m % 1000000000), 0) := by
    unfold divQ ok1
    simp only
    rw [show Nat.ble (nat m).length 1000000000 = true from Nat.ble_eq_true_of_le hm, show Nat.ble (nat 1000000000).length 1000000000 = true from Nat.ble_eq_true_of_le hl, Bool.and_self, cond_true, val_nat, val_nat, divmod, if_neg (by decide)]
  refine (h (nat m, nat 1000000000) _ hg W (fun _ => False) [.string ⟨(nat m).toArray⟩, .string ⟨(nat 1000000000).toArray⟩] (fun _ h => h.elim) hi (denL2 (denS' _) (denStr _))).mono fun e w' hr => ?_
  obtain ⟨ok, vs, rfl, hb, hd⟩ := ret_any rfl hr
  obtain ⟨v1, vs1, rfl, h1, hd⟩ := hd
  obtain ⟨v2, vs2, rfl, h2, hd⟩ := hd
  obtain ⟨v3, rfl, h3⟩ := hd
  obtain rfl := denS h1
  obtain rfl := denS h2
  obtain rfl := denI h3
  exact ⟨rfl, hb⟩
theorem cSmall (h : CallT Tryz.prog 138 [.str] [.int .u64, .bool] inv smallQ) (r : Nat) (hr : r < 1000000000) (W : World) (hi : inv W) :
    Calls Tryz.prog 138 #[.string ⟨(nat r).toArray⟩] W fun e w' => e = .returned (.tuple #[.int .u64 (r : Int), .bool true]) ∧ Below W.heap.size W w' := by
  have hl : (nat r).length ≤ 4 := P.nat_length_le (by omega)
  have hg : smallQ (nat r) = some ((r : Int), true) := by
    unfold smallQ ok1
    rw [show Nat.ble (nat r).length 1000000000 = true from Nat.ble_eq_true_of_le (by omega), cond_true, val_nat, small, if_pos (by omega)]
  refine (h (nat r) _ hg W (fun _ => False) [.string ⟨(nat r).toArray⟩] (fun _ h => h.elim) hi (denStr _)).mono fun e w' hr => ?_
  obtain ⟨ok, vs, rfl, hb, hd⟩ := ret_any rfl hr
  obtain ⟨v1, vs1, rfl, h1, hd⟩ := hd
  obtain ⟨v2, rfl, h2⟩ := hd
  obtain rfl := denI h1
  obtain rfl := denB h2
  exact ⟨rfl, hb⟩
theorem cDig (h : CallT Tryz.prog 139 [.int .u64, .int .i64] [.str] inv digitsQ) (r : Nat) (hr : r < 1000000000) (W : World) (hi : inv W) :
    Calls Tryz.prog 139 #[.int .u64 (r : Int), .int .i64 9] W fun e w' => e = .returned (.string ⟨(digitsL 9 r).toArray⟩) ∧ Below W.heap.size W w' := by
  have hg : digitsQ (((r : Int), (9 : Int)) : Int × Int) = some (digitsL 9 r) := by
    unfold digitsQ
    rw [show (decide ((0 : Int) ≤ (((r : Int), (9 : Int)) : Int × Int).1) && (decide ((((r : Int), (9 : Int)) : Int × Int).1 < 18446744073709551616) && (decide ((0 : Int) ≤ (((r : Int), (9 : Int)) : Int × Int).2) && decide ((((r : Int), (9 : Int)) : Int × Int).2 ≤ 1000)))) = true by simp; omega, cond_true]; rfl
  exact (h (((r : Int), (9 : Int)) : Int × Int) _ hg W (fun _ => False) [.int .u64 (r : Int), .int .i64 9] (fun _ h => h.elim) hi (denL2 (u := .int .i64) (ts := []) (y := (9 : Int)) (denI' .u64 (r : Int)) (denN .i64 9))).mono fun e w' hr => ret_str hr
theorem cTL (l : List UInt8) (W : World) : Calls Tryz.prog 141 #[.string ⟨l.toArray⟩, .string ⟨#[48]⟩] W fun e w' => e = .returned (.string ⟨(Lib.trimLeftB l 48).toArray⟩) ∧ Below W.heap.size W w' :=
  (K.trimLeft_ok (inv := fun _ => True) (l, [48]) (Lib.trimLeftB l 48) rfl W (fun _ => False) [.string ⟨l.toArray⟩, .string ⟨#[48]⟩] (fun _ h => h.elim) trivial (denL2 (denS' l) (denStr [48]))).mono fun e w' hr => ret_str hr
/-- The parts of nine digits, the lowest first. -/
def decPartsF : Nat → Nat → List (List UInt8)
  | 0, _ => []
  | f + 1, n => if n = 0 then [] else digitsL 9 (n % 1000000000) :: decPartsF f (n / 1000000000)
def decParts (n : Nat) : List (List UInt8) := decPartsF n n
theorem decPartsF_eq : ∀ (f g n : Nat), n ≤ f → n ≤ g → decPartsF f n = decPartsF g n
  | 0, g, n, h1, h2 => by
    obtain rfl : n = 0 := by omega
    cases g <;> simp [decPartsF]
  | f + 1, 0, n, h1, h2 => by
    obtain rfl : n = 0 := by omega
    simp [decPartsF]
  | f + 1, g + 1, n, h1, h2 => by
    by_cases h : n = 0
    · subst h; simp [decPartsF]
    · rw [decPartsF, decPartsF, if_neg h, if_neg h, decPartsF_eq f g (n / 1000000000) (by omega) (by omega)]
theorem decParts_zero : decParts 0 = [] := rfl
theorem decParts_pos {n : Nat} (h : n ≠ 0) : decParts n = digitsL 9 (n % 1000000000) :: decParts (n / 1000000000) := by
  obtain ⟨m, rfl⟩ : ∃ m, n = m + 1 := ⟨n - 1, by omega⟩
  conv => lhs; unfold decParts
  rw [decPartsF, if_neg h, decPartsF_eq m ((m + 1) / 1000000000) _ (by omega) (Nat.le_refl _)]; rfl
def decTrim (l : List UInt8) : List UInt8 := cond (decide (Lib.trimLeftB l 48 = [])) [48] (Lib.trimLeftB l 48)
def decText (n : Nat) : List UInt8 := decTrim ((decParts n).reverse.flatten)
theorem len_div (n : Nat) (h : n ≠ 0) : (nat (n / 1000000000)).length + 1 ≤ (nat n).length := by
  have h1 : (nat n).length = (nat (n / 256)).length + 1 := by rw [P.nat_length, P.nat_length, P.digs_pos h]; simp
  have := len_mono (show n / 1000000000 ≤ n / 256 by omega)
  omega
theorem decParts_len (n : Nat) : (decParts n).length ≤ (nat n).length := by
  induction n using Nat.strongRecOn with
  | _ n ih =>
    by_cases h : n = 0
    · subst h; rw [decParts_zero]; exact Nat.zero_le _
    · have := ih (n / 1000000000) (by omega)
      have := len_div n h
      rw [decParts_pos h, List.length_cons]; omega
theorem own_keep {w W : World} {n : Nat} {e : TypeId} {size : Nat} {v : Value} {k : Nat} {xs : List Value} (h : w.ownsRow n e size v k xs) (hb : Below w.heap.size w W) : W.ownsRow n e size v k xs := by
  refine ⟨h.1, ?_⟩
  rcases h.2 with h | ⟨g, cap, cur, h1, h2, h3, h4⟩
  · exact .inl h
  · exact .inr ⟨g, cap, cur, h1, h2, (hb.block g (Array.getElem?_eq_some_iff.1 h3).1).trans h3, h4⟩
theorem own_cells {w : World} {n : Nat} {ao : Option Addr} {cv : Nat} {ps : List (List UInt8)} (h : w.ownsRow n 9 1 (.slice ao ps.length cv) ps.length (ps.map fun p => Value.string ⟨p.toArray⟩)) (hp : 0 < ps.length) :
    ∃ g, ao = some ⟨g, 0, none⟩ ∧ ∀ i, i < ps.length → w.cell? ⟨g, i, none⟩ = some (.string ⟨(ps.getD i []).toArray⟩) := by
  rcases h.2 with ⟨_, h⟩ | ⟨g, cap, cur, h1, h2, h3, h4, h5, h6, h7⟩
  · omega
  · injection h1 with h1 _ h8
    refine ⟨g, h1, fun i hi => ?_⟩
    have e : (ps.map fun p => Value.string ⟨p.toArray⟩)[i]? = some (.string ⟨(ps.getD i []).toArray⟩) := by
      rw [List.getElem?_map, List.getElem?_eq_getElem hi, List.getD_eq_getElem?_getD, List.getElem?_eq_getElem hi]; rfl
    rw [← h7, List.getElem?_take, if_pos (by omega)] at e
    simp only [World.cell?, h3]
    simpa using e
theorem own_lt {w : World} {n : Nat} {e : TypeId} {size : Nat} {g : Nat} {k c : Nat} {xs : List Value} (h : w.ownsRow n e size (.slice (some ⟨g, 0, none⟩) k c) k xs) : g < w.heap.size := (h.lt g (by simp [Value.ownBlock])).2
theorem digitsL_length : ∀ k n, (digitsL k n).length = k
  | 0, _ => rfl
  | k + 1, n => by rw [digitsL, List.length_append, digitsL_length k]; rfl
theorem decParts_nine (n : Nat) : ∀ p ∈ decParts n, p.length = 9 := by
  induction n using Nat.strongRecOn with
  | _ n ih =>
    by_cases h : n = 0
    · subst h; rw [decParts_zero]; intro p hp; cases hp
    · rw [decParts_pos h]
      intro p hp
      rcases List.mem_cons.1 hp with rfl | hp
      · exact digitsL_length _ _
      · exact ih _ (by omega) p hp
theorem flat9 (l : List (List UInt8)) (h : ∀ p ∈ l, p.length = 9) : l.flatten.length = 9 * l.length := by
  induction l with
  | nil => rfl
  | cons a l ih =>
    have h1 := h a (List.mem_cons_self ..)
    have h2 := ih fun p hp => h p (List.mem_cons_of_mem _ hp)
    rw [List.flatten_cons, List.length_append, h1, h2, List.length_cons]; omega
theorem take_rev (ps : List (List UInt8)) (k : Nat) (h : k < ps.length) : (ps.reverse.take (k + 1)).flatten = (ps.reverse.take k).flatten ++ ps.getD (ps.length - 1 - k) [] := by
  rw [List.take_add_one, List.getElem?_reverse h, List.getElem?_eq_getElem (by omega), List.getD_eq_getElem?_getD, List.getElem?_eq_getElem (by omega)]
  simp
def HidP (p : Prop) : Prop := p
def strLen : Value → Nat
  | .string s => s.size
  | _ => 0
set_option maxRecDepth 1000000 in
set_option maxHeartbeats 4000000 in
theorem main (hk : ∀ w w', inv w → Below w.heap.size w w' → inv w') (hTrim : CallT Tryz.prog 136 [.str] [.str] inv trimQ) (hOf : CallT Tryz.prog 137 [.int .u64] [.str] inv ofQ)
    (hDiv : CallT Tryz.prog 68 [.str, .str] [.str, .str, .int .i64] inv divQ) (hSmall : CallT Tryz.prog 138 [.str] [.int .u64, .bool] inv smallQ) (hDig : CallT Tryz.prog 139 [.int .u64, .int .i64] [.str] inv digitsQ)
    (s : List UInt8) (hs : s.length ≤ 1000000000) (w : World) (hw : inv w) :
    Calls Tryz.prog 67 #[.string ⟨s.toArray⟩] w fun e w' => e = .returned (.string ⟨(decText (val s)).toArray⟩) ∧ Below w.heap.size w w' := by
  have hkk : ∀ W, Below w.heap.size w W → inv W := fun W hb => hk w W hw hb
  have l0 := nat_val_length s
  have hi9 : (Tryz.prog.info? 9).map (fun i => (i.zero, i.size, i.bytes)) = some (some (.string ByteArray.empty), 1, 16) := by kernel_rfl
  obtain ⟨i0, hi, hz0, hz1, hz2⟩ := info_parts hi9
  clear hi9
  go_enter Tryz.func67, Tryz.ntmps67
  go_wp2_with (go_at_call 136; refine (cTrim hTrim s hs _ hw).mono ?_; rintro e w1 ⟨rfl, hb1⟩)
  go_loopw [0, 3] (fun a v wr => ∃ (m : Nat) (ps : List (List UInt8)) (ao : Option Addr) (cv : Nat), a = .string ⟨(nat m).toArray⟩ ∧ m ≤ val s ∧ v = .slice ao ps.length cv ∧ wr.ownsRow w.heap.size 9 1 v ps.length (ps.map fun p => Value.string ⟨p.toArray⟩) ∧ Below w.heap.size w wr ∧ ps ++ decParts m = decParts (val s)) (fun a _ _ => strLen a)
  case atStart =>
    refine ⟨val s, [], none, 0, rfl, Nat.le_refl _, rfl, World.ownsRow_nil _ _ _ _, hb1, rfl⟩
  case round =>
    obtain ⟨m, ps, ao, cv, rfl, hm, rfl, hown, hbw, hps⟩ := hrel
    have lps : ps.length ≤ 1000000000 := by
      have h1 := congrArg List.length hps
      have h2 := decParts_len (val s)
      rw [List.length_append] at h1
      omega
    by_cases h0 : m = 0
    · subst h0
      go_wp2
      have hwsz := hbw.size
      have hpe0 : ps = decParts (val s) := by simpa [decParts_zero] using hps
      have h9 : ∀ p ∈ ps, p.length = 9 := by rw [hpe0]; exact decParts_nine _
      have hpe : HidP (ps = decParts (val s)) := hpe0
      clear hpe0 hps
      go_loopw [38] (fun i wr2 => ∃ k : Nat, k ≤ ps.length ∧ i = .int .i64 k ∧ Lib.IsBuilderF 133 5 wr.heap.size wr.heap.size (Lib.byteCells (ps.reverse.take k).flatten) wr2 ∧ Below wr.heap.size wr wr2) (fun i _ => ps.length - (intOf i).toNat)
      case atStart =>
        exact ⟨0, Nat.zero_le _, rfl, Lib.IsBuilderF.of (Lib.fresh_isBuilder 133 5 wr), (Below.refl _ wr).alloc (Nat.le_refl _) _⟩
      case round =>
        obtain ⟨k, hk, rfl, hbd, hbr⟩ := hrel
        by_cases hkl : k < ps.length
        · obtain ⟨g, rfl, hcell⟩ := own_cells hown (by omega)
          have hidx : wrap64 (wrap64 ((ps.length : Int) - 1) - (k : Int)) = ((ps.length - 1 - k : Nat) : Int) := by unfold wrap64; omega
          have hc1 := hcell (ps.length - 1 - k) (by omega)
          have hc2 := (hbr.cell (p := ⟨g, ps.length - 1 - k, none⟩) (own_lt hown)).trans hc1
          have hfl : (ps.reverse.take k).flatten.length = 9 * k := by
            rw [flat9 _ (fun p hp => h9 p (by simpa using List.mem_of_mem_take hp)), List.length_take, List.length_reverse, Nat.min_eq_left hk]
          have hp9 : (ps.getD (ps.length - 1 - k) []).length = 9 := by
            rw [List.getD_eq_getElem?_getD, List.getElem?_eq_getElem (by omega)]
            exact h9 _ (List.getElem_mem _)
          have hsz2 := hbr.size
          go_wp2_with (go_at_call 140; refine (writeStr _ _ _ ⟨(ps.getD (ps.length - 1 - k) []).toArray⟩ _ hbd (by rw [Lib.byteCells_length, hfl]; show 9 * k + (ps.getD (ps.length - 1 - k) []).toArray.size ≤ _; rw [List.size_toArray]; omega) hsz2).mono ?_; rintro e W1 ⟨rfl, h1, b1, k1⟩)
          go_roundw
          case rel =>
            have R : k + 1 ≤ ps.length ∧ Value.int .i64 ((k : Int) + 1) = .int .i64 ((k + 1 : Nat) : Int) ∧ Lib.IsBuilderF 133 5 _ _ (Lib.byteCells (ps.reverse.take (k + 1)).flatten) W1 ∧ Below _ _ W1 :=
              ⟨by omega, by go_num, by rw [take_rev ps k hkl, Lib.byteCells_append]; exact Or.inr h1, hbr.trans b1⟩
            first
              | exact ⟨k + 1, R⟩
              | ((repeat apply Exists.intro); exact ⟨⟨k + 1, R⟩, rfl⟩)
          case measure => simp [intOf]; omega
        · have hsz2 := hbr.size
          have hkp : k = ps.length := by omega
          subst hkp
          rw [show ps.reverse.take ps.length = ps.reverse by rw [← List.length_reverse, List.take_length]] at hbd
          go_wp2_with (first
            | (go_at_call 142; refine (Tryz.Builder_String_any_k _ _ _ _ hbd hsz2).mono ?_; rintro e W1 ⟨rfl, h1, b1, k1⟩)
            | (go_at_call 141; refine (cTL _ _).mono ?_; rintro e W2 ⟨rfl, b2⟩))
          all_goals have hbl := (hbw.trans ((hbr.trans b1).mono hwsz)).trans (b2.mono (hbw.trans ((hbr.trans b1).mono hwsz)).size)
          all_goals have hpq : ps = decParts (val s) := hpe
          · have hb : (Lib.trimLeftB ps.reverse.flatten 48).isEmpty = true := by assumption
            go_ret
            refine ⟨?_, hbl⟩
            rw [decText, ← hpq, decTrim, List.isEmpty_iff.1 hb]; rfl
          · have hb : (Lib.trimLeftB ps.reverse.flatten 48).isEmpty = false := by assumption
            go_ret
            refine ⟨?_, hbl⟩
            rw [decText, ← hpq, decTrim, decide_eq_false (by intro e; rw [e] at hb; cases hb)]; rfl
    · have hne : ¬ ((⟨(nat m).toArray⟩ : ByteArray) = ⟨#[]⟩) := fun e => h0 (nat_eq_nil.1 (by simpa using congrArg (fun b : ByteArray => b.data.toList) e))
      have he : (nat m).isEmpty = false := by
        cases h : nat m with
        | nil => exact absurd (nat_eq_nil.1 h) h0
        | cons => rfl
      have lm : (nat m).length ≤ 1000000000 := Nat.le_trans (len_mono hm) (by omega)
      have hr9 := Nat.mod_lt m (show 0 < 1000000000 by decide)
      go_wp2_with (first
        | (go_at_call 137; refine (cOf hOf _ (hkk _ hbw)).mono ?_; rintro e W1 ⟨rfl, b1⟩; have hbw1 := hbw.trans (b1.mono hbw.size))
        | (go_at_call 68; refine (cDiv hDiv m lm _ (hkk _ hbw1)).mono ?_; rintro e W2 ⟨rfl, b2⟩; have hbw2 := hbw1.trans (b2.mono hbw1.size))
        | (go_at_call 138; refine (cSmall hSmall _ hr9 _ (hkk _ hbw2)).mono ?_; rintro e W3 ⟨rfl, b3⟩; have hbw3 := hbw2.trans (b3.mono hbw2.size))
        | (go_at_call 139; refine (cDig hDig _ hr9 _ (hkk _ hbw3)).mono ?_; rintro e W4 ⟨rfl, b4⟩; have hbw4 := hbw3.trans (b4.mono hbw3.size); have hall := ((b1.trans (b2.mono b1.size)).trans (b3.mono (b1.trans (b2.mono b1.size)).size)).trans (b4.mono ((b1.trans (b2.mono b1.size)).trans (b3.mono (b1.trans (b2.mono b1.size)).size)).size); have hs4 := hbw4.size)
        | (at_builtin; refine wpList_append_own _ rfl _ _ 109 rfl w.heap.size 9 i0 (.string ByteArray.empty) 1 16 Tryz.underlying109 hi hz0 hz1 hz2 rfl (by decide) _ _ _ rfl ((own_keep hown hall).alloc _) ⟨W4.heap.size, 0, none⟩ 1 1 [.string ⟨(digitsL 9 (m % 1000000000)).toArray⟩] rfl rfl (cell_one_new _ _ _) (fun x hx => by simp at hx; subst hx; rfl) (by unfold maxLen; omega) (by omega) (by simp; omega) ?_; intro v' w5 hown' hgrow5 hnil5))
      obtain ⟨g3, cap3, rfl⟩ := ownsRow_succ hown'
      have hsz1 := len_div m h0
      exact ⟨⟨m / 1000000000, ps ++ [digitsL 9 (m % 1000000000)], some ⟨g3, 0, none⟩, cap3, rfl, by omega, by simp, by rw [List.map_append, List.length_append]; exact hown', (hbw4.alloc hs4 _).grown hgrow5 (by simp; omega) (fun q hq => (hown.lt q hq).1), by rw [List.append_assoc, ← hps, decParts_pos h0]; rfl⟩, by
        show (nat (m / 1000000000)).toArray.size < (nat m).toArray.size
        simp; omega⟩
def decQ (s : List UInt8) : Option (List UInt8) := cond (ok1 s) (some (decText (val s))) none
theorem dec_ok (hk : ∀ w w', inv w → Below w.heap.size w w' → inv w') (hi : ∀ w, inv w → MaxLen w) : CallT Tryz.prog 67 [.str] [.str] inv decQ := by
  intro y r h w fz0 vs hfz hinv hd
  obtain ⟨hc, rfl⟩ := cond_some h
  obtain rfl := K.unStr hd
  refine (main hk (trim_ok hi) (of_ok hi) (div_ok hi) (small_ok hi) (digits_ok hi) y (ok1_le hc) w hinv).mono fun e w' ⟨he, hb⟩ => ?_
  subst he
  exact K.retT_plain (ts := [.str]) [_] hb rfl (denStr _)
end Go.Proofs.YtenapomineinbaaGreatDoor.Q

/- The machine at this seat: tables, names. -/
set_option linter.unusedVariables false
set_option maxRecDepth 100000
namespace Go.Proofs.YtenapomineinbaaGreatDoor.K
open Go
def look {α : Type} : List (Nat × α) → Nat → Option α
  | [], _ => none
  | (u, v) :: l, t => match Nat.beq u t with
    | true => some v
    | false => look l t
def peq : Path → Path → Bool
  | [], [] => true
  | a :: p, b :: q => Nat.beq a b && peq p q
  | _, _ => false
def lookP : List (Nat × Path × Ann) → Nat → Path → Option Ann
  | [], _, _ => none
  | (g, u, v) :: l, f, t => match Nat.beq g f && peq u t with
    | true => some v
    | false => lookP l f t
def Inv (w : World) : Prop := MaxLen w
theorem inv_max : ∀ w, Inv w → MaxLen w := fun _ h => h
theorem inv_keeps : ∀ w w', Inv w → RowKit.Below w.heap.size w w' → Inv w' := maxLen_keeps
noncomputable def ti2 : TI := { sh := (.int .i64), size := 1, bytes := 8, zero := [(.int .i64 0)], ty := some (.int .i64), fl := [], eq := false }
noncomputable def ti3 : TI := { sh := (.int .i64), size := 1, bytes := 8, zero := [(.int .i64 0)], ty := some (.int .i64), fl := [], eq := false }
noncomputable def ti4 : TI := { sh := .bool, size := 1, bytes := 1, zero := [(.bool false)], ty := some .bool, fl := [], eq := false }
noncomputable def ti5 : TI := { sh := (.int .u8), size := 1, bytes := 1, zero := [(.int .u8 0)], ty := some (.int .u8), fl := [], eq := false }
noncomputable def ti9 : TI := { sh := .str, size := 1, bytes := 16, zero := [(.str [])], ty := some .str, fl := [], eq := false }
noncomputable def ti23 : TI := { sh := (.st [(0, 4), (1, 9), (2, 9)]), size := 3, bytes := 40, zero := [(.bool false), (.str []), (.str [])], ty := some (.pair .bool (.pair .str .str)), fl := [(0, 1, false), (1, 1, false), (2, 1, false)], eq := true }
noncomputable def ti37 : TI := { sh := (.st [(0, 3), (1, 23), (4, 9), (5, 4), (6, 3)]), size := 7, bytes := 80, zero := [(.int .i64 0), (.bool false), (.str []), (.str []), (.str []), (.bool false), (.int .i64 0)], ty := some (.pair (.int .i64) (.pair (.pair .bool (.pair .str .str)) (.pair .str (.pair .bool (.int .i64))))), fl := [(0, 1, false), (1, 3, true), (4, 1, false), (5, 1, false), (6, 1, false)], eq := true }
noncomputable def ti57 : TI := { sh := (.sl 37), size := 1, bytes := 24, zero := [.nilsl], ty := some (.sl (.pair (.int .i64) (.pair (.pair .bool (.pair .str .str)) (.pair .str (.pair .bool (.int .i64)))))), fl := [], eq := false }
noncomputable def ti88 : TI := { sh := (.int .u64), size := 1, bytes := 8, zero := [(.int .u64 0)], ty := some (.int .u64), fl := [], eq := false }
noncomputable def ti91 : TI := { sh := (.st [(0, 4), (1, 9)]), size := 2, bytes := 24, zero := [(.bool false), (.str [])], ty := some (.pair .bool .str), fl := [(0, 1, false), (1, 1, false)], eq := false }
noncomputable def ti107 : TI := { sh := (.arr 8 9), size := 8, bytes := 128, zero := [(.str []), (.str []), (.str []), (.str []), (.str []), (.str []), (.str []), (.str [])], ty := none, fl := [], eq := false }
noncomputable def ti109 : TI := { sh := (.sl 9), size := 1, bytes := 24, zero := [.nilsl], ty := some (.sl .str), fl := [], eq := false }
noncomputable def ti113 : TI := { sh := (.st [(0, 3), (1, 23), (4, 9), (5, 4), (6, 3)]), size := 7, bytes := 80, zero := [(.int .i64 0), (.bool false), (.str []), (.str []), (.str []), (.bool false), (.int .i64 0)], ty := some (.pair (.int .i64) (.pair (.pair .bool (.pair .str .str)) (.pair .str (.pair .bool (.int .i64))))), fl := [(0, 1, false), (1, 3, true), (4, 1, false), (5, 1, false), (6, 1, false)], eq := false }
noncomputable def ti131 : TI := { sh := (.sl 5), size := 1, bytes := 24, zero := [.nilsl], ty := some (.sl (.int .u8)), fl := [], eq := false }
noncomputable def ti161 : TI := { sh := (.sl 3), size := 1, bytes := 24, zero := [.nilsl], ty := some (.sl (.int .i64)), fl := [], eq := false }
noncomputable def tis : List (Nat × TI) := [(2, ti2), (3, ti3), (4, ti4), (5, ti5), (9, ti9), (23, ti23), (37, ti37), (57, ti57), (88, ti88), (91, ti91), (107, ti107), (109, ti109), (113, ti113), (131, ti131), (161, ti161)]
noncomputable def fns : List (Nat × Func) := [(3, Tryz.f3), (4, Tryz.f4), (5, Tryz.f5), (6, Tryz.f6), (8, Tryz.f8), (9, Tryz.f9), (11, Tryz.f11), (12, Tryz.f12), (13, Tryz.f13), (14, Tryz.f14), (15, Tryz.f15), (16, Tryz.f16), (17, Tryz.f17), (18, Tryz.f18), (19, Tryz.f19), (20, Tryz.f20), (21, Tryz.f21), (22, Tryz.f22), (23, Tryz.f23), (24, Tryz.f24), (25, Tryz.f25), (26, Tryz.f26), (27, Tryz.f27), (28, Tryz.f28), (29, Tryz.f29), (30, Tryz.f30), (31, Tryz.f31), (32, Tryz.f32), (33, Tryz.f33), (34, Tryz.f34), (35, Tryz.f35), (36, Tryz.f36), (37, Tryz.f37), (38, Tryz.f38), (39, Tryz.f39), (40, Tryz.f40), (41, Tryz.f41), (42, Tryz.f42), (43, Tryz.f43), (44, Tryz.f44), (45, Tryz.f45), (46, Tryz.f46), (47, Tryz.f47), (49, Tryz.f49), (51, Tryz.f51), (52, Tryz.f52), (53, Tryz.f53), (54, Tryz.f54), (55, Tryz.f55), (56, Tryz.f56), (57, Tryz.f57), (58, Tryz.f58), (66, Tryz.f66), (67, Tryz.f67), (68, Tryz.f68), (69, Tryz.f69), (70, Tryz.f70), (71, Tryz.f71), (72, Tryz.f72), (73, Tryz.f73), (74, Tryz.f74), (75, Tryz.f75), (76, Tryz.f76), (77, Tryz.f77), (78, Tryz.f78), (79, Tryz.f79), (80, Tryz.f80), (81, Tryz.f81), (82, Tryz.f82), (83, Tryz.f83), (84, Tryz.f84), (85, Tryz.f85), (86, Tryz.f86), (87, Tryz.f87), (88, Tryz.f88), (89, Tryz.f89), (90, Tryz.f90), (91, Tryz.f91), (92, Tryz.f92), (93, Tryz.f93), (94, Tryz.f94), (95, Tryz.f95), (96, Tryz.f96), (97, Tryz.f97), (98, Tryz.f98), (99, Tryz.f99), (100, Tryz.f100), (101, Tryz.f101), (103, Tryz.f103), (104, Tryz.f104), (105, Tryz.f105), (107, Tryz.f107), (108, Tryz.f108), (109, Tryz.f109), (110, Tryz.f110), (111, Tryz.f111), (112, Tryz.f112), (113, Tryz.f113), (114, Tryz.f114), (115, Tryz.f115), (120, Tryz.f120), (121, Tryz.f121), (136, Tryz.f136), (137, Tryz.f137), (144, Tryz.f144), (151, Tryz.f151), (155, Tryz.f155), (156, Tryz.f156), (157, Tryz.f157), (158, Tryz.f158), (159, Tryz.f159), (160, Tryz.f160), (161, Tryz.f161), (162, Tryz.f162), (163, Tryz.f163), (165, Tryz.f165), (166, Tryz.f166), (167, Tryz.f167), (168, Tryz.f168), (169, Tryz.f169), (170, Tryz.f170), (171, Tryz.f171), (172, Tryz.f172), (173, Tryz.f173), (174, Tryz.f174), (175, Tryz.f175), (176, Tryz.f176), (177, Tryz.f177), (178, Tryz.f178), (179, Tryz.f179), (180, Tryz.f180), (181, Tryz.f181), (182, Tryz.f182), (212, Tryz.f212), (213, Tryz.f213), (214, Tryz.f214), (215, Tryz.f215), (102, Tryz.f102), (106, Tryz.f106)]
def inls : List Nat := [102, 106]
noncomputable def ptsL : List (Nat × List Ty) := [(3, [(.pair .bool (.pair .str .str))]), (4, [.str]), (5, [.str, (.pair (.int .i64) (.pair (.pair .bool (.pair .str .str)) (.pair .str (.pair .bool (.int .i64)))))]), (6, [(.pair .bool (.pair .str .str)), .str, (.int .i64), (.pair (.int .i64) (.pair (.pair .bool (.pair .str .str)) (.pair .str (.pair .bool (.int .i64)))))]), (8, [(.pair .bool (.pair .str .str)), (.pair .bool (.pair .str .str))]), (9, [(.pair (.int .i64) (.pair (.pair .bool (.pair .str .str)) (.pair .str (.pair .bool (.int .i64)))))]), (11, [(.pair .bool (.pair .str .str))]), (12, [(.pair .bool (.pair .str .str))]), (13, [(.pair .bool (.pair .str .str))]), (14, [(.pair .bool (.pair .str .str))]), (15, [(.pair .bool (.pair .str .str))]), (16, [(.pair .bool (.pair .str .str))]), (17, [.str]), (18, [.str]), (19, [(.pair .bool (.pair .str .str))]), (20, [(.pair .bool (.pair .str .str))]), (21, []), (22, [.str]), (23, [.str]), (24, []), (25, [.str]), (26, [.str]), (27, [(.pair (.int .i64) (.pair (.pair .bool (.pair .str .str)) (.pair .str (.pair .bool (.int .i64)))))]), (28, [(.pair (.int .i64) (.pair (.pair .bool (.pair .str .str)) (.pair .str (.pair .bool (.int .i64)))))]), (29, [(.pair (.int .i64) (.pair (.pair .bool (.pair .str .str)) (.pair .str (.pair .bool (.int .i64)))))]), (30, [.str]), (31, [.str]), (32, [(.pair .bool (.pair .str .str))]), (33, [(.pair .bool (.pair .str .str))]), (34, [.str]), (35, [.str]), (36, [.bool]), (37, [.bool]), (38, [(.int .i64)]), (39, [(.int .i64)]), (40, [(.pair .bool (.pair .str .str)), (.int .i64)]), (41, [(.pair .bool (.pair .str .str)), (.int .i64)]), (42, [(.int .i64)]), (43, [(.int .i64)]), (44, [(.pair (.int .i64) (.pair (.pair .bool (.pair .str .str)) (.pair .str (.pair .bool (.int .i64)))))]), (45, [(.pair (.int .i64) (.pair (.pair .bool (.pair .str .str)) (.pair .str (.pair .bool (.int .i64)))))]), (46, [(.pair (.int .i64) (.pair (.pair .bool (.pair .str .str)) (.pair .str (.pair .bool (.int .i64)))))]), (47, [(.pair (.int .i64) (.pair (.pair .bool (.pair .str .str)) (.pair .str (.pair .bool (.int .i64))))), (.pair (.int .i64) (.pair (.pair .bool (.pair .str .str)) (.pair .str (.pair .bool (.int .i64)))))]), (49, [(.sl (.pair (.int .i64) (.pair (.pair .bool (.pair .str .str)) (.pair .str (.pair .bool (.int .i64))))))]), (51, []), (52, [(.pair .bool (.pair .str .str)), (.pair .bool (.pair .str .str))]), (53, [(.pair (.int .i64) (.pair (.pair .bool (.pair .str .str)) (.pair .str (.pair .bool (.int .i64)))))]), (54, [(.pair (.int .i64) (.pair (.pair .bool (.pair .str .str)) (.pair .str (.pair .bool (.int .i64)))))]), (55, [(.pair (.int .i64) (.pair (.pair .bool (.pair .str .str)) (.pair .str (.pair .bool (.int .i64)))))]), (56, [(.pair (.int .i64) (.pair (.pair .bool (.pair .str .str)) (.pair .str (.pair .bool (.int .i64)))))]), (57, [(.pair (.int .i64) (.pair (.pair .bool (.pair .str .str)) (.pair .str (.pair .bool (.int .i64)))))]), (58, [(.pair (.int .i64) (.pair (.pair .bool (.pair .str .str)) (.pair .str (.pair .bool (.int .i64)))))]), (66, [(.pair .bool (.pair .str .str))]), (67, [.str]), (68, [.str, .str]), (69, [.str, .str]), (70, [(.int .u64), (.int .i64)]), (71, [.str, (.int .i64)]), (72, [(.pair .bool .str), (.pair .bool .str)]), (73, [.bool, .str]), (74, [(.pair .bool (.pair .str .str))]), (75, [.str, (.int .i64)]), (76, [.str]), (77, [.str, .str]), (78, [(.pair .bool (.pair .str .str))]), (79, [.str]), (80, [.str]), (81, [(.pair .bool (.pair .str .str))]), (82, [.str, .str]), (83, [.str, .str]), (84, [.str, .str]), (85, [(.pair .bool (.pair .str .str))]), (86, [.str]), (87, [.str]), (88, [(.pair .bool .str), (.pair .bool .str)]), (89, [.bool, .str]), (90, [(.pair .bool (.pair .str .str))]), (91, []), (92, [.str, (.int .u8)]), (93, [.str, .str]), (94, [(.pair .bool (.pair .str .str))]), (95, [.str]), (96, [.str]), (97, [(.pair .bool .str), (.pair .bool .str)]), (98, [(.int .i64)]), (99, [.str]), (100, [.str]), (101, [.str, .str]), (103, [(.pair .bool (.pair .str .str))]), (104, [(.int .i64)]), (105, []), (107, [(.pair (.int .i64) (.pair (.pair .bool (.pair .str .str)) (.pair .str (.pair .bool (.int .i64)))))]), (108, [(.pair (.int .i64) (.pair (.pair .bool (.pair .str .str)) (.pair .str (.pair .bool (.int .i64))))), (.int .i64)]), (109, [(.int .i64), (.int .i64)]), (110, [(.pair .bool (.pair .str .str)), (.pair .bool (.pair .str .str))]), (111, [(.sl (.int .i64))]), (112, [.str, .str]), (113, [(.int .i64), (.int .i64)]), (114, [.bool]), (115, [(.pair (.int .i64) (.pair (.pair .bool (.pair .str .str)) (.pair .str (.pair .bool (.int .i64)))))]), (120, [(.pair .bool .str), (.pair .bool .str)]), (121, [(.pair .bool (.pair .str .str))]), (136, [.str]), (137, [(.int .u64)]), (144, [.str, .str]), (151, [.str, (.int .i64)]), (155, [(.pair .bool .str)]), (156, [.str, .str]), (157, [.str]), (158, [.str, (.int .i64)]), (159, [.str, .str]), (160, [.str]), (161, [.str, (.int .u64)]), (162, [.str, .str]), (163, [.str, .str]), (165, [(.pair .bool (.pair .str .str))]), (166, [.str]), (167, [.str, .str]), (168, [.str, .str]), (169, [.str, .str]), (170, [.str, .str]), (171, [(.int .u64)]), (172, [.str]), (173, [(.int .i64)]), (174, [.str, .str]), (175, [.str]), (176, [(.int .i64)]), (177, [(.int .i64)]), (178, [(.pair .bool .str), (.pair .bool .str)]), (179, [(.pair .bool (.pair .str .str)), (.pair .bool (.pair .str .str))]), (180, [.str]), (181, [(.int .i64)]), (182, [.str, .str]), (212, [(.pair .bool .str)]), (213, [(.pair .bool (.pair .str .str))]), (214, [(.pair .bool .str), (.pair .bool .str)]), (215, [(.pair .bool (.pair .str .str))])]
noncomputable def rtsL : List (Nat × List Ty) := [(3, [.bool]), (4, [.bool]), (5, [.bool]), (6, [.bool]), (8, [.bool]), (9, [.bool]), (11, [.str]), (12, [.str, .bool]), (13, [.str, .bool]), (14, [(.int .i64), .bool]), (15, [(.int .i64), .bool]), (16, [.str]), (17, [(.pair .bool (.pair .str .str)), (.int .i64)]), (18, [(.pair .bool (.pair .str .str)), (.int .i64)]), (19, [(.pair .bool (.pair .str .str))]), (20, [(.pair .bool (.pair .str .str))]), (21, [.bool]), (22, [(.pair .bool (.pair .str .str)), (.int .i64)]), (23, [(.pair .bool (.pair .str .str)), (.int .i64)]), (24, [.bool]), (25, [(.pair (.int .i64) (.pair (.pair .bool (.pair .str .str)) (.pair .str (.pair .bool (.int .i64))))), (.int .i64)]), (26, [(.pair (.int .i64) (.pair (.pair .bool (.pair .str .str)) (.pair .str (.pair .bool (.int .i64))))), (.int .i64)]), (27, [.str, (.int .i64)]), (28, [.str, (.int .i64)]), (29, [.bool]), (30, [(.int .i64), .bool]), (31, [(.int .i64), .bool]), (32, [(.pair (.int .i64) (.pair (.pair .bool (.pair .str .str)) (.pair .str (.pair .bool (.int .i64)))))]), (33, [(.pair (.int .i64) (.pair (.pair .bool (.pair .str .str)) (.pair .str (.pair .bool (.int .i64)))))]), (34, [(.pair (.int .i64) (.pair (.pair .bool (.pair .str .str)) (.pair .str (.pair .bool (.int .i64)))))]), (35, [(.pair (.int .i64) (.pair (.pair .bool (.pair .str .str)) (.pair .str (.pair .bool (.int .i64)))))]), (36, [(.pair (.int .i64) (.pair (.pair .bool (.pair .str .str)) (.pair .str (.pair .bool (.int .i64)))))]), (37, [(.pair (.int .i64) (.pair (.pair .bool (.pair .str .str)) (.pair .str (.pair .bool (.int .i64)))))]), (38, [(.pair (.int .i64) (.pair (.pair .bool (.pair .str .str)) (.pair .str (.pair .bool (.int .i64)))))]), (39, [(.pair (.int .i64) (.pair (.pair .bool (.pair .str .str)) (.pair .str (.pair .bool (.int .i64)))))]), (40, [(.pair (.int .i64) (.pair (.pair .bool (.pair .str .str)) (.pair .str (.pair .bool (.int .i64)))))]), (41, [(.pair (.int .i64) (.pair (.pair .bool (.pair .str .str)) (.pair .str (.pair .bool (.int .i64)))))]), (42, [.str]), (43, [.str]), (44, [.bool]), (45, [.str]), (46, [.str]), (47, [(.int .i64), (.int .i64)]), (49, [(.int .i64)]), (51, [.bool]), (52, [(.int .i64)]), (53, [(.pair .bool (.pair .str .str)), (.int .i64)]), (54, [(.pair .bool (.pair .str .str)), (.int .i64)]), (55, [.str, (.int .i64)]), (56, [.str, (.int .i64)]), (57, [.bool, (.int .i64)]), (58, [.bool, (.int .i64)]), (66, [(.pair .bool (.pair .str .str))]), (67, [.str]), (68, [.str, .str, (.int .i64)]), (69, [.str]), (70, [.str]), (71, [.str]), (72, [(.pair .bool .str)]), (73, [(.pair .bool .str)]), (74, [(.pair .bool .str)]), (75, [.str]), (76, [.str]), (77, [.str]), (78, [(.pair .bool .str)]), (79, [(.int .i64), (.int .i64)]), (80, [(.int .i64), (.int .i64)]), (81, [(.int .i64)]), (82, [.str, .bool]), (83, [.str, .str, .bool]), (84, [(.pair .bool (.pair .str .str)), (.int .i64)]), (85, [(.pair .bool (.pair .str .str))]), (86, [.bool]), (87, [.str, (.int .i64)]), (88, [(.pair .bool (.pair .str .str)), (.int .i64)]), (89, [(.pair .bool .str)]), (90, [.bool]), (91, [(.pair .bool (.pair .str .str))]), (92, [(.int .i64)]), (93, [(.pair .bool (.pair .str .str)), (.int .i64)]), (94, [(.pair .bool (.pair .str .str))]), (95, [.bool]), (96, [.str, (.int .i64)]), (97, [(.pair .bool (.pair .str .str)), (.int .i64)]), (98, [(.pair .bool (.pair .str .str))]), (99, [.bool]), (100, [.bool]), (101, [.bool]), (103, [.bool]), (104, [(.pair .bool (.pair .str .str))]), (105, [(.sl .str)]), (107, [(.int .i64)]), (108, [(.pair (.int .i64) (.pair (.pair .bool (.pair .str .str)) (.pair .str (.pair .bool (.int .i64)))))]), (109, [(.int .i64)]), (110, [(.int .i64)]), (111, [(.int .i64)]), (112, [(.int .i64)]), (113, [(.int .i64)]), (114, [(.int .i64)]), (115, [(.int .i64)]), (120, [(.int .i64)]), (121, [(.int .i64)]), (136, [.str]), (137, [.str]), (144, [(.int .i64)]), (151, [.str, (.int .i64)]), (155, [(.pair .bool .str)]), (156, [.str]), (157, [.str]), (158, [.str, (.int .i64)]), (159, [.str, .str, (.int .i64)]), (160, [(.int .u64), .bool]), (161, [(.int .i64)]), (162, [(.int .i64)]), (163, [.str, .bool]), (165, [(.pair .bool (.pair .str .str))]), (166, [.bool]), (167, [.str]), (168, [.str]), (169, [.str]), (170, [.str]), (171, [.str]), (172, [(.int .i64)]), (173, [(.pair .bool .str)]), (174, [.bool]), (175, [.bool]), (176, [(.pair .bool .str)]), (177, [.bool]), (178, [(.int .i64)]), (179, [(.pair .bool .str), (.pair .bool .str)]), (180, [.bool]), (181, [.bool]), (182, [(.int .i64)]), (212, [(.pair .bool .str)]), (213, [(.pair .bool .str)]), (214, [(.pair .bool .str)]), (215, [(.pair .bool .str)])]
noncomputable def annL : List (Nat × List (Nat × Path × Ann)) := [
  (3, [(3, [1, 0, 1, 1, 1, 1, 1, 1], { live := [(1, .keep), (3, .keep), (4, .keep), (5, .keep), (66, .keep)], toks := [(16, [.keep, .keep, .keep])] })]),
  (5, [(5, [1, 0, 1, 1, 1, 1, 1, 1], { live := [(3, .keep), (9, .keep), (12, .keep), (65, .keep)], toks := [(48, [.keep, .keep, .keep, .keep, .keep, .keep, .keep])] })]),
  (9, [(9, [1, 0, 1], { live := [(1, .keep), (34, .keep)], toks := [(16, [.keep, .keep, .keep, .keep, .keep, .keep, .keep])] }),
    (9, [1, 0, 1, 1, 1, 1, 1, 1, 1, 1], { live := [(1, .keep), (7, .keep), (10, .keep), (93, .keep)], toks := [(16, [.keep, .keep, .keep, .keep, .keep, .keep, .keep])] }),
    (9, [1, 0, 1, 1, 1, 1, 1, 1, 1, 1, 1], { live := [(1, .keep), (7, .keep), (100, .keep)], toks := [(16, [.keep, .keep, .keep, .keep, .keep, .keep, .keep])] })]),
  (11, [(11, [1, 1, 0, 1, 1, 1, 1], { live := [(1, .keep), (3, .keep), (21, .keep)], toks := [(16, [.keep, .keep, .keep])] }),
    (11, [1, 1, 1, 1], { live := [(1, .keep), (3, .keep)], toks := [(16, [.keep, .keep, .keep])] })]),
  (13, [(13, [0, 0, 1, 1, 1, 1, 1], { live := [(4, .keep), (7, .keep)], toks := [] })]),
  (16, [(16, [1, 0, 1, 1, 1, 1], { live := [(1, .keep), (3, .keep), (21, .keep)], toks := [(16, [.keep, .keep, .keep])] }),
    (16, [1, 1, 1], { live := [(1, .keep), (3, .keep)], toks := [(16, [.keep, .keep, .keep])] })]),
  (17, [(17, [1, 1, 1, 1, 1, 1, 1], { live := [(2, .keep), (8, .keep), (9, .keep)], toks := [(32, [.keep, .keep, .keep]), (128, [.keep, .keep, .keep])] }),
    (17, [1, 0, 1, 1, 1, 1, 1, 1], { live := [(2, .keep), (8, .keep), (9, .keep), (37, .keep)], toks := [(32, [.keep, .keep, .keep]), (128, [.keep, .keep, .keep])] }),
    (17, [1, 1, 1, 1, 1, 1], { live := [(2, .keep), (4, .keep), (8, .keep), (9, .keep)], toks := [(32, [.keep, .keep, .keep]), (128, [.keep, .keep, .keep])] })]),
  (18, [(18, [1, 0, 0, 1, 1], { live := [(0, .keep), (2, .keep), (4, .keep), (5, .keep), (15, .keep)], toks := [(32, [.keep, .keep, .keep])] })]),
  (22, [(22, [1, 1, 1, 1, 1, 1, 1], { live := [(2, .keep), (5, .keep), (6, .keep)], toks := [(32, [.keep, .keep, .keep]), (80, [.keep, .keep, .keep])] }),
    (22, [1, 0, 1, 1, 1, 1, 1, 1], { live := [(2, .keep), (5, .keep), (6, .keep), (43, .keep)], toks := [(32, [.keep, .keep, .keep]), (80, [.keep, .keep, .keep])] }),
    (22, [1, 1, 1, 1, 1, 1], { live := [(2, .keep), (4, .keep), (5, .keep), (6, .keep)], toks := [(32, [.keep, .keep, .keep]), (80, [.keep, .keep, .keep])] }),
    (22, [1, 1, 1], { live := [(0, .keep), (2, .keep), (4, .keep)], toks := [(32, [.keep, .keep, .keep])] }),
    (22, [1, 1], { live := [(0, .keep), (2, .keep), (4, .keep)], toks := [(32, [.keep, .keep, .keep])] })]),
  (23, [(23, [1, 0, 1, 1, 1, 1, 1], { live := [(0, .keep), (2, .keep), (5, .keep), (6, .keep), (32, .keep)], toks := [(32, [.keep, .keep, .keep])] }),
    (23, [1, 1, 1, 1, 1], { live := [(0, .keep), (2, .keep), (4, .keep), (5, .keep), (6, .keep)], toks := [(32, [.keep, .keep, .keep])] })]),
  (25, [(25, [1, 1, 1, 0, 1, 0, 1, 1], { live := [(0, .keep), (2, .keep), (16, .keep)], toks := [(32, [.keep, .keep, .keep, .keep, .keep, .keep, .keep])] })]),
  (26, [(26, [1, 0, 1, 1, 1], { live := [(0, .keep), (2, .keep), (20, .keep)], toks := [(32, [.keep, .keep, .keep, .keep, .keep, .keep, .keep])] }),
    (26, [1, 1, 1, 1, 1, 1, 1, 1, 1], { live := [(0, .keep), (2, .keep)], toks := [(32, [.keep, .keep, .keep, .keep, .keep, .keep, .keep])] })]),
  (27, [(27, [1, 1, 0, 1, 1, 1, 1], { live := [(4, .keep), (31, .keep)], toks := [] })]),
  (28, [(28, [1, 0, 1, 1, 1, 1], { live := [(4, .keep), (38, .keep)], toks := [] })]),
  (30, [(30, [1000000, 0, 0, 1], { live := [(0, .keep)], toks := [] }),
    (30, [0, 1, 0, 1], { live := [(0, .keep), (6, .keep), (7, .keep)], toks := [] }),
    (30, [1, 1, 0, 0, 1, 1, 0, 0, 1, 0, 1], { live := [(0, .keep), (4, .keep), (6, .keep), (7, .keep), (17, .keep)], toks := [] })]),
  (31, [(31, [0, 1, 0, 1], { live := [(0, .keep), (4, .keep)], toks := [] })]),
  (32, [(32, [1, 1], { live := [(1, .keep), (2, .keep)], toks := [(16, [.keep, .keep, .keep]), (32, [.keep, .keep, .keep, .keep, .keep, .keep, .keep])] })]),
  (38, [(38, [1, 1], { live := [(0, .keep), (2, .keep)], toks := [(32, [.keep, .keep, .keep, .keep, .keep, .keep, .keep])] })]),
  (39, [(39, [1, 0, 1], { live := [(0, .keep), (2, .keep), (8, .keep)], toks := [(32, [.keep, .keep, .keep, .keep, .keep, .keep, .keep])] }),
    (39, [1, 1], { live := [(0, .keep), (2, .keep)], toks := [(32, [.keep, .keep, .keep, .keep, .keep, .keep, .keep])] })]),
  (42, [(42, [1000000, 0, 1], { live := [(0, .keep)], toks := [] }),
    (42, [1, 0, 1, 1], { live := [(0, .keep), (3, .keep), (10, .keep)], toks := [(48, [.keep, .keep, .keep, .keep, .keep, .keep, .keep, .keep])] })]),
  (43, [(43, [1, 0, 1], { live := [(0, .keep), (8, .keep)], toks := [] })]),
  (47, [(47, [1000004, 0, 0, 1], { live := [(2, .keep), (3, .keep)], toks := [] }),
    (47, [1, 0, 1], { live := [(2, .keep), (3, .keep), (6, .keep)], toks := [(32, [.keep, .keep, .keep, .keep, .keep, .keep, .keep]), (48, [.keep, .keep, .keep, .keep, .keep, .keep, .keep])] })]),
  (49, [(49, [0, 1, 0, 1], { live := [(6, .im (.sl (.pair (.int .i64) (.pair (.pair .bool (.pair .str .str)) (.pair .str (.pair .bool (.int .i64))))))), (7, .keep), (8, .keep)], toks := [] })]),
  (57, [(57, [1, 1, 0, 0, 1, 1, 1, 0, 1, 0, 1, 1], { live := [(1, .keep), (34, .keep)], toks := [(16, [.keep, .keep, .keep, .keep, .keep, .keep, .keep])] })]),
  (58, [(58, [1, 0, 0, 1, 1, 1, 0, 1, 1, 1], { live := [(1, .keep), (28, .keep)], toks := [(16, [.keep, .keep, .keep, .keep, .keep, .keep, .keep])] })]),
  (76, [(76, [0, 1, 0, 1, 1, 1], { live := [(0, .keep), (3, .keep), (4, .keep)], toks := [] }),
    (76, [1, 0, 0, 0, 1, 0, 1, 1, 1], { live := [(0, .keep), (3, .keep), (4, .keep), (21, .keep)], toks := [] })]),
  (84, [(84, [1, 0, 0, 0, 0, 0, 0, 0, 0, 0, 0, 1, 1, 1], { live := [(4, .keep), (6, .keep), (7, .keep), (8, .keep), (9, .keep), (20, .keep)], toks := [(64, [.keep, .keep, .keep])] }),
    (84, [1, 0, 0, 1, 1, 1], { live := [(4, .keep), (6, .keep), (7, .keep), (8, .keep)], toks := [(64, [.keep, .keep, .keep])] })]),
  (85, [(85, [1, 1, 1], { live := [(1, .keep), (2, .keep)], toks := [(16, [.keep, .keep, .keep]), (32, [.keep, .keep, .keep])] })]),
  (86, [(86, [0, 1, 0, 1], { live := [(0, .keep), (6, .im (.sl (.int .u8))), (7, .keep), (8, .keep)], toks := [] }),
    (86, [1, 1, 0, 0, 1, 1, 0, 0, 1, 0, 1], { live := [(0, .keep), (6, .im (.sl (.int .u8))), (7, .keep), (8, .keep), (17, .keep)], toks := [] })]),
  (87, [(87, [1, 0, 0, 1], { live := [(0, .keep), (10, .keep)], toks := [] }),
    (87, [0, 0, 1, 1, 1], { live := [(0, .keep), (4, .keep)], toks := [] }),
    (87, [0, 1, 0, 1, 1, 0, 1, 0, 0, 0, 1, 1, 1], { live := [(0, .keep), (4, .keep), (5, .keep), (6, .keep), (7, .keep), (30, .im (.sl (.int .u8))), (31, .keep), (32, .keep)], toks := [] })]),
  (88, [(88, [1, 0, 1, 1, 1, 1], { live := [(2, .keep), (3, .keep), (4, .keep), (6, .keep), (7, .keep), (44, .keep)], toks := [(32, [.keep, .keep]), (48, [.keep, .keep]), (64, [.keep, .keep, .keep])] }),
    (88, [1, 1, 1, 1], { live := [(2, .keep), (3, .keep), (4, .keep), (6, .keep), (7, .keep)], toks := [(32, [.keep, .keep]), (48, [.keep, .keep]), (64, [.keep, .keep, .keep])] })]),
  (90, [(90, [1, 0, 1], { live := [(1, .keep), (33, .keep)], toks := [(16, [.keep, .keep, .keep])] })]),
  (92, [(92, [0, 1, 0, 1], { live := [(0, .keep), (1, .keep), (5, .keep)], toks := [] })]),
  (93, [(93, [1, 0, 1, 1, 1], { live := [(4, .keep), (6, .keep), (7, .keep), (8, .keep), (9, .keep), (25, .keep)], toks := [(64, [.keep, .keep, .keep])] }),
    (93, [1, 0, 1, 1, 1, 1], { live := [(4, .keep), (6, .keep), (8, .keep), (32, .keep)], toks := [(64, [.keep, .keep, .keep])] })]),
  (95, [(95, [0, 1, 0, 1], { live := [(0, .keep), (3, .keep)], toks := [] }),
    (95, [1, 0, 0, 1, 0, 0, 1, 0, 1], { live := [(0, .keep), (3, .keep), (19, .keep)], toks := [] })]),
  (96, [(96, [0, 1, 0, 1], { live := [(0, .keep), (4, .keep)], toks := [] }),
    (96, [1, 0, 0, 1, 0, 0, 1, 0, 1], { live := [(0, .keep), (4, .keep), (22, .keep)], toks := [] }),
    (96, [0, 1, 0, 1, 1, 1, 1, 1], { live := [(0, .keep), (5, .keep), (6, .keep)], toks := [] })]),
  (97, [(97, [1, 0, 1, 1, 1, 1, 1, 1, 1], { live := [(4, .keep), (6, .keep), (7, .keep), (9, .keep), (10, .keep), (45, .keep)], toks := [(64, [.keep, .keep, .keep]), (96, [.keep, .keep]), (112, [.keep, .keep])] })]),
  (99, [(99, [0, 1, 0, 1], { live := [(0, .keep), (6, .im (.sl (.int .u8))), (7, .keep), (8, .keep)], toks := [] }),
    (99, [1, 1, 0, 0, 1, 1, 0, 0, 1, 0, 1], { live := [(0, .keep), (6, .im (.sl (.int .u8))), (7, .keep), (8, .keep), (17, .keep)], toks := [] })]),
  (100, [(100, [0, 1, 0, 1, 1], { live := [(0, .keep), (3, .keep)], toks := [] }),
    (100, [1, 0, 0, 1, 0, 0, 1, 0, 1, 1], { live := [(0, .keep), (3, .keep), (22, .keep)], toks := [] })]),
  (103, [(103, [1, 0, 0, 1], { live := [(1, .keep), (3, .keep)], toks := [(16, [.keep, .keep, .keep])] })]),
  (111, [(111, [0, 1, 0, 1, 1], { live := [(3, .keep), (6, .im (.sl (.int .i64))), (7, .keep), (8, .keep)], toks := [] })]),
  (161, [(161, [0, 0, 1, 1], { live := [(0, .keep), (1, .keep), (5, .keep)], toks := [] }),
    (161, [1, 0, 1, 0, 1, 0, 0, 0, 1, 1], { live := [(1, .keep), (5, .keep), (6, .keep), (24, .keep)], toks := [] })]),
  (162, [(162, [0, 1, 0, 1, 1], { live := [(0, .keep), (1, .keep), (5, .keep), (6, .keep)], toks := [] }),
    (162, [1, 0, 0, 0, 1, 0, 1, 1], { live := [(0, .keep), (1, .keep), (5, .keep), (6, .keep), (15, .keep)], toks := [] })]),
  (166, [(166, [0, 1, 0, 1], { live := [(6, .im (.sl (.int .u8))), (7, .keep), (8, .keep)], toks := [] }),
    (166, [1, 1, 0, 0, 1, 1, 0, 0, 1, 0, 1], { live := [(6, .im (.sl (.int .u8))), (7, .keep), (8, .keep), (17, .keep)], toks := [] })]),
  (178, [(178, [1, 0, 0, 1, 1, 1], { live := [(2, .keep), (3, .keep), (5, .keep), (15, .keep)], toks := [(32, [.keep, .keep]), (48, [.keep, .keep])] })])]
noncomputable def extL : List ((j : Nat) × (den (tyL ((look ptsL j).getD [])) → Option (den (tyL ((look rtsL j).getD []))))) := [⟨67, Q.decQ⟩, ⟨68, Q.divQ⟩, ⟨69, Q.mulQ⟩, ⟨71, repeatF⟩, ⟨83, cutF⟩, ⟨136, Q.trimQ⟩, ⟨137, Q.ofQ⟩, ⟨144, Q.cmpQ⟩, ⟨151, Q.powQ⟩, ⟨156, Q.mulQ⟩, ⟨157, Q.trimQ⟩, ⟨158, Q.powQ⟩, ⟨159, Q.divQ⟩, ⟨160, Q.smallQ⟩, ⟨167, Q.addQ⟩, ⟨168, Q.gcdQ⟩, ⟨169, Q.gcdQ⟩, ⟨170, Q.addQ⟩, ⟨171, Q.ofQ⟩, ⟨172, Q.bitsQ⟩, ⟨182, Q.cmpQ⟩]
noncomputable def CT : Ctx where
  ti := look tis
  fn := look fns
  disp := fun _ f _ => match inls.elem f with
    | true => .inl
    | false => .spec f
  fid := fun i => i
  pts := fun i => (look ptsL i).getD []
  rts := fun i => (look rtsL i).getD []
  ext := lookE extL
  ann := fun i f p => match look annL i with
    | some l => lookP l f p
    | none => none
  inv := Inv
noncomputable abbrev abacistlaw07_NumtextTells (x0 : Bool × List UInt8 × List UInt8) : Option (Bool) := (top CT).callF 3 (x0)
noncomputable abbrev abacistlaw07_NumtextTells_1 (a1 : List UInt8) (a2 : List UInt8) (a3 : Bool) (a4 : Bool) (a5 : Bool × List UInt8 × List UInt8) : Option (Bool) := (top CT).stage 3 [] 3 [1, 0, 1, 1, 1, 1, 1, 1] { env := [(1, (.ptr 16 0)), (3, (.str a1)), (4, (.str a2)), (5, (.bool a3)), (66, (.bool a4))], heap := [(16, .box [(.bool a5.1), (.str a5.2.1), (.str a5.2.2)])], salt := 0 }
noncomputable abbrev abacistlaw07_NumtextParse (x0 : List UInt8) : Option (Bool) := (top CT).callF 4 (x0)
noncomputable abbrev abacistlaw08_ValueLiterals (x0 : List UInt8) (x1 : Int × (Bool × List UInt8 × List UInt8) × List UInt8 × Bool × Int) : Option (Bool) := (top CT).callF 5 (x0, x1)
noncomputable abbrev abacistlaw08_ValueLiterals_1 (a1 : List UInt8) (a2 : Int) (a3 : Bool) (a4 : Int × (Bool × List UInt8 × List UInt8) × List UInt8 × Bool × Int) : Option (Bool) := (top CT).stage 5 [] 5 [1, 0, 1, 1, 1, 1, 1, 1] { env := [(3, (.ptr 48 0)), (9, (.str a1)), (12, (.int .i64 a2)), (65, (.bool a3))], heap := [(48, .box [(.int .i64 a4.1), (.bool a4.2.1.1), (.str a4.2.1.2.1), (.str a4.2.1.2.2), (.str a4.2.2.1), (.bool a4.2.2.2.1), (.int .i64 a4.2.2.2.2)])], salt := 0 }
noncomputable abbrev abacistlaw08_ValueMakes (x0 : Bool × List UInt8 × List UInt8) (x1 : List UInt8) (x2 : Int) (x3 : Int × (Bool × List UInt8 × List UInt8) × List UInt8 × Bool × Int) : Option (Bool) := (top CT).callF 6 (x0, x1, x2, x3)
noncomputable abbrev abacistlaw09_CoerceNumbers (x0 : Bool × List UInt8 × List UInt8) (x1 : Bool × List UInt8 × List UInt8) : Option (Bool) := (top CT).callF 8 (x0, x1)
noncomputable abbrev abacistlaw09_CoerceOne (x0 : Int × (Bool × List UInt8 × List UInt8) × List UInt8 × Bool × Int) : Option (Bool) := (top CT).callF 9 (x0)
noncomputable abbrev abacistlaw09_CoerceOne_1 (a1 : Bool) (a2 : Int × (Bool × List UInt8 × List UInt8) × List UInt8 × Bool × Int) : Option (Bool) := (top CT).stage 9 [] 9 [1, 0, 1] { env := [(1, (.ptr 16 0)), (34, (.bool a1))], heap := [(16, .box [(.int .i64 a2.1), (.bool a2.2.1.1), (.str a2.2.1.2.1), (.str a2.2.1.2.2), (.str a2.2.2.1), (.bool a2.2.2.2.1), (.int .i64 a2.2.2.2.2)])], salt := 0 }
noncomputable abbrev abacistlaw09_CoerceOne_2 (a1 : List UInt8) (a2 : Int) (a3 : Bool) (a4 : Int × (Bool × List UInt8 × List UInt8) × List UInt8 × Bool × Int) : Option (Bool) := (top CT).stage 9 [] 9 [1, 0, 1, 1, 1, 1, 1, 1, 1, 1] { env := [(1, (.ptr 16 0)), (7, (.str a1)), (10, (.int .i64 a2)), (93, (.bool a3))], heap := [(16, .box [(.int .i64 a4.1), (.bool a4.2.1.1), (.str a4.2.1.2.1), (.str a4.2.1.2.2), (.str a4.2.2.1), (.bool a4.2.2.2.1), (.int .i64 a4.2.2.2.2)])], salt := 0 }
noncomputable abbrev abacistlaw09_CoerceOne_3 (a1 : List UInt8) (a2 : Bool) (a3 : Int × (Bool × List UInt8 × List UInt8) × List UInt8 × Bool × Int) : Option (Bool) := (top CT).stage 9 [] 9 [1, 0, 1, 1, 1, 1, 1, 1, 1, 1, 1] { env := [(1, (.ptr 16 0)), (7, (.str a1)), (100, (.bool a2))], heap := [(16, .box [(.int .i64 a3.1), (.bool a3.2.1.1), (.str a3.2.1.2.1), (.str a3.2.1.2.2), (.str a3.2.2.1), (.bool a3.2.2.2.1), (.int .i64 a3.2.2.2.2)])], salt := 0 }
noncomputable abbrev numtext_Text (x0 : Bool × List UInt8 × List UInt8) : Option (List UInt8) := (top CT).callF 11 (x0)
noncomputable abbrev numtext_Text_1 (a1 : List UInt8) (a2 : Bool × List UInt8 × List UInt8) : Option (List UInt8) := (top CT).stage 11 [] 11 [1, 1, 1, 1] { env := [(1, (.ptr 16 0)), (3, (.str a1))], heap := [(16, .box [(.bool a2.1), (.str a2.2.1), (.str a2.2.2)])], salt := 0 }
noncomputable abbrev numtext_Text_2 (a1 : List UInt8) (a2 : Bool) (a3 : Bool × List UInt8 × List UInt8) : Option (List UInt8) := (top CT).stage 11 [] 11 [1, 1, 0, 1, 1, 1, 1] { env := [(1, (.ptr 16 0)), (3, (.str a1)), (21, (.bool a2))], heap := [(16, .box [(.bool a3.1), (.str a3.2.1), (.str a3.2.2)])], salt := 0 }
noncomputable abbrev numtext_Point (x0 : Bool × List UInt8 × List UInt8) : Option (List UInt8 × Bool) := (top CT).callF 12 (x0)
noncomputable abbrev abacistref07_Point (x0 : Bool × List UInt8 × List UInt8) : Option (List UInt8 × Bool) := (top CT).callF 13 (x0)
noncomputable abbrev abacistref07_Point_1 (a1 : Int) (a2 : List UInt8) : Option (List UInt8 × Bool) := (top CT).stage 13 [] 13 [0, 0, 1, 1, 1, 1, 1] { env := [(4, (.int .i64 a1)), (7, (.str a2))], heap := [], salt := 0 }
noncomputable abbrev numtext_Ends (x0 : Bool × List UInt8 × List UInt8) : Option (Int × Bool) := (top CT).callF 14 (x0)
noncomputable abbrev abacistref07_Ends (x0 : Bool × List UInt8 × List UInt8) : Option (Int × Bool) := (top CT).callF 15 (x0)
noncomputable abbrev abacistref07_Text (x0 : Bool × List UInt8 × List UInt8) : Option (List UInt8) := (top CT).callF 16 (x0)
noncomputable abbrev abacistref07_Text_1 (a1 : List UInt8) (a2 : Bool × List UInt8 × List UInt8) : Option (List UInt8) := (top CT).stage 16 [] 16 [1, 1, 1] { env := [(1, (.ptr 16 0)), (3, (.str a1))], heap := [(16, .box [(.bool a2.1), (.str a2.2.1), (.str a2.2.2)])], salt := 0 }
noncomputable abbrev abacistref07_Text_2 (a1 : List UInt8) (a2 : Bool) (a3 : Bool × List UInt8 × List UInt8) : Option (List UInt8) := (top CT).stage 16 [] 16 [1, 0, 1, 1, 1, 1] { env := [(1, (.ptr 16 0)), (3, (.str a1)), (21, (.bool a2))], heap := [(16, .box [(.bool a3.1), (.str a3.2.1), (.str a3.2.2)])], salt := 0 }
noncomputable abbrev numtext_Parse (x0 : List UInt8) : Option ((Bool × List UInt8 × List UInt8) × Int) := (top CT).callF 17 (x0)
noncomputable abbrev numtext_Parse_1 (a1 : Bool) (a2 : Int) (a3 : Bool × List UInt8 × List UInt8) (a4 : Bool × List UInt8 × List UInt8) : Option ((Bool × List UInt8 × List UInt8) × Int) := (top CT).stage 17 [] 17 [1, 1, 1, 1, 1, 1] { env := [(2, (.ptr 32 0)), (4, (.bool a1)), (8, (.ptr 128 0)), (9, (.int .i64 a2))], heap := [(32, .box [(.bool a3.1), (.str a3.2.1), (.str a3.2.2)]), (128, .box [(.bool a4.1), (.str a4.2.1), (.str a4.2.2)])], salt := 0 }
noncomputable abbrev numtext_Parse_2 (a1 : Int) (a2 : Bool) (a3 : Bool × List UInt8 × List UInt8) (a4 : Bool × List UInt8 × List UInt8) : Option ((Bool × List UInt8 × List UInt8) × Int) := (top CT).stage 17 [] 17 [1, 0, 1, 1, 1, 1, 1, 1] { env := [(2, (.ptr 32 0)), (8, (.ptr 128 0)), (9, (.int .i64 a1)), (37, (.bool a2))], heap := [(32, .box [(.bool a3.1), (.str a3.2.1), (.str a3.2.2)]), (128, .box [(.bool a4.1), (.str a4.2.1), (.str a4.2.2)])], salt := 0 }
noncomputable abbrev numtext_Parse_3 (a1 : Int) (a2 : Bool × List UInt8 × List UInt8) (a3 : Bool × List UInt8 × List UInt8) : Option ((Bool × List UInt8 × List UInt8) × Int) := (top CT).stage 17 [] 17 [1, 1, 1, 1, 1, 1, 1] { env := [(2, (.ptr 32 0)), (8, (.ptr 128 0)), (9, (.int .i64 a1))], heap := [(32, .box [(.bool a2.1), (.str a2.2.1), (.str a2.2.2)]), (128, .box [(.bool a3.1), (.str a3.2.1), (.str a3.2.2)])], salt := 0 }
noncomputable abbrev numtext_Decimal (x0 : List UInt8) : Option ((Bool × List UInt8 × List UInt8) × Int) := (top CT).callF 18 (x0)
noncomputable abbrev numtext_Decimal_1 (a1 : List UInt8) (a2 : List UInt8) (a3 : List UInt8) (a4 : Bool) (a5 : Bool × List UInt8 × List UInt8) : Option ((Bool × List UInt8 × List UInt8) × Int) := (top CT).stage 18 [] 18 [1, 0, 0, 1, 1] { env := [(0, (.str a1)), (2, (.ptr 32 0)), (4, (.str a2)), (5, (.str a3)), (15, (.bool a4))], heap := [(32, .box [(.bool a5.1), (.str a5.2.1), (.str a5.2.2)])], salt := 0 }
noncomputable abbrev abacistref05_Well (x0 : Bool × List UInt8 × List UInt8) : Option (Bool × List UInt8 × List UInt8) := (top CT).callF 19 (x0)
noncomputable abbrev abacistref05_Abs (x0 : Bool × List UInt8 × List UInt8) : Option (Bool × List UInt8 × List UInt8) := (top CT).callF 20 (x0)
noncomputable abbrev abacistlaw07_known : Option (Bool) := (top CT).callF 21 ()
noncomputable abbrev abacistref07_Parse (x0 : List UInt8) : Option ((Bool × List UInt8 × List UInt8) × Int) := (top CT).callF 22 (x0)
noncomputable abbrev abacistref07_Parse_1 (a1 : List UInt8) (a2 : Bool) (a3 : Bool × List UInt8 × List UInt8) : Option ((Bool × List UInt8 × List UInt8) × Int) := (top CT).stage 22 [] 22 [1, 1] { env := [(0, (.str a1)), (2, (.ptr 32 0)), (4, (.bool a2))], heap := [(32, .box [(.bool a3.1), (.str a3.2.1), (.str a3.2.2)])], salt := 0 }
noncomputable abbrev abacistref07_Parse_2 (a1 : List UInt8) (a2 : Bool) (a3 : Bool × List UInt8 × List UInt8) : Option ((Bool × List UInt8 × List UInt8) × Int) := (top CT).stage 22 [] 22 [1, 1, 1] { env := [(0, (.str a1)), (2, (.ptr 32 0)), (4, (.bool a2))], heap := [(32, .box [(.bool a3.1), (.str a3.2.1), (.str a3.2.2)])], salt := 0 }
noncomputable abbrev abacistref07_Parse_3 (a1 : Bool) (a2 : Int) (a3 : Bool × List UInt8 × List UInt8) (a4 : Bool × List UInt8 × List UInt8) : Option ((Bool × List UInt8 × List UInt8) × Int) := (top CT).stage 22 [] 22 [1, 1, 1, 1, 1, 1] { env := [(2, (.ptr 32 0)), (4, (.bool a1)), (5, (.ptr 80 0)), (6, (.int .i64 a2))], heap := [(32, .box [(.bool a3.1), (.str a3.2.1), (.str a3.2.2)]), (80, .box [(.bool a4.1), (.str a4.2.1), (.str a4.2.2)])], salt := 0 }
noncomputable abbrev abacistref07_Parse_4 (a1 : Int) (a2 : Bool) (a3 : Bool × List UInt8 × List UInt8) (a4 : Bool × List UInt8 × List UInt8) : Option ((Bool × List UInt8 × List UInt8) × Int) := (top CT).stage 22 [] 22 [1, 0, 1, 1, 1, 1, 1, 1] { env := [(2, (.ptr 32 0)), (5, (.ptr 80 0)), (6, (.int .i64 a1)), (43, (.bool a2))], heap := [(32, .box [(.bool a3.1), (.str a3.2.1), (.str a3.2.2)]), (80, .box [(.bool a4.1), (.str a4.2.1), (.str a4.2.2)])], salt := 0 }
noncomputable abbrev abacistref07_Parse_5 (a1 : Int) (a2 : Bool × List UInt8 × List UInt8) (a3 : Bool × List UInt8 × List UInt8) : Option ((Bool × List UInt8 × List UInt8) × Int) := (top CT).stage 22 [] 22 [1, 1, 1, 1, 1, 1, 1] { env := [(2, (.ptr 32 0)), (5, (.ptr 80 0)), (6, (.int .i64 a1))], heap := [(32, .box [(.bool a2.1), (.str a2.2.1), (.str a2.2.2)]), (80, .box [(.bool a3.1), (.str a3.2.1), (.str a3.2.2)])], salt := 0 }
noncomputable abbrev abacistref07_Decimal (x0 : List UInt8) : Option ((Bool × List UInt8 × List UInt8) × Int) := (top CT).callF 23 (x0)
noncomputable abbrev abacistref07_Decimal_1 (a1 : List UInt8) (a2 : Int) (a3 : List UInt8) (a4 : List UInt8) (a5 : Bool × List UInt8 × List UInt8) : Option ((Bool × List UInt8 × List UInt8) × Int) := (top CT).stage 23 [] 23 [1, 1, 1, 1, 1] { env := [(0, (.str a1)), (2, (.ptr 32 0)), (4, (.int .i64 a2)), (5, (.str a3)), (6, (.str a4))], heap := [(32, .box [(.bool a5.1), (.str a5.2.1), (.str a5.2.2)])], salt := 0 }
noncomputable abbrev abacistref07_Decimal_2 (a1 : List UInt8) (a2 : List UInt8) (a3 : List UInt8) (a4 : Bool) (a5 : Bool × List UInt8 × List UInt8) : Option ((Bool × List UInt8 × List UInt8) × Int) := (top CT).stage 23 [] 23 [1, 0, 1, 1, 1, 1, 1] { env := [(0, (.str a1)), (2, (.ptr 32 0)), (5, (.str a2)), (6, (.str a3)), (32, (.bool a4))], heap := [(32, .box [(.bool a5.1), (.str a5.2.1), (.str a5.2.2)])], salt := 0 }
noncomputable abbrev abacistlaw08_known : Option (Bool) := (top CT).callF 24 ()
noncomputable abbrev value_Literal (x0 : List UInt8) : Option ((Int × (Bool × List UInt8 × List UInt8) × List UInt8 × Bool × Int) × Int) := (top CT).callF 25 (x0)
noncomputable abbrev value_Literal_1 (a1 : List UInt8) (a2 : Bool) (a3 : Int × (Bool × List UInt8 × List UInt8) × List UInt8 × Bool × Int) : Option ((Int × (Bool × List UInt8 × List UInt8) × List UInt8 × Bool × Int) × Int) := (top CT).stage 25 [] 25 [1, 1, 1, 0, 1, 0, 1, 1] { env := [(0, (.str a1)), (2, (.ptr 32 0)), (16, (.bool a2))], heap := [(32, .box [(.int .i64 a3.1), (.bool a3.2.1.1), (.str a3.2.1.2.1), (.str a3.2.1.2.2), (.str a3.2.2.1), (.bool a3.2.2.2.1), (.int .i64 a3.2.2.2.2)])], salt := 0 }
noncomputable abbrev abacistref08_Literal (x0 : List UInt8) : Option ((Int × (Bool × List UInt8 × List UInt8) × List UInt8 × Bool × Int) × Int) := (top CT).callF 26 (x0)
noncomputable abbrev abacistref08_Literal_1 (a1 : List UInt8) (a2 : Bool) (a3 : Int × (Bool × List UInt8 × List UInt8) × List UInt8 × Bool × Int) : Option ((Int × (Bool × List UInt8 × List UInt8) × List UInt8 × Bool × Int) × Int) := (top CT).stage 26 [] 26 [1, 0, 1, 1, 1] { env := [(0, (.str a1)), (2, (.ptr 32 0)), (20, (.bool a2))], heap := [(32, .box [(.int .i64 a3.1), (.bool a3.2.1.1), (.str a3.2.1.2.1), (.str a3.2.1.2.2), (.str a3.2.2.1), (.bool a3.2.2.2.1), (.int .i64 a3.2.2.2.2)])], salt := 0 }
noncomputable abbrev abacistref08_Literal_2 (a1 : List UInt8) (a2 : Int × (Bool × List UInt8 × List UInt8) × List UInt8 × Bool × Int) : Option ((Int × (Bool × List UInt8 × List UInt8) × List UInt8 × Bool × Int) × Int) := (top CT).stage 26 [] 26 [1, 1, 1, 1, 1, 1, 1, 1, 1] { env := [(0, (.str a1)), (2, (.ptr 32 0))], heap := [(32, .box [(.int .i64 a2.1), (.bool a2.2.1.1), (.str a2.2.1.2.1), (.str a2.2.1.2.2), (.str a2.2.2.1), (.bool a2.2.2.2.1), (.int .i64 a2.2.2.2.2)])], salt := 0 }
noncomputable abbrev value_Content (x0 : Int × (Bool × List UInt8 × List UInt8) × List UInt8 × Bool × Int) : Option (List UInt8 × Int) := (top CT).callF 27 (x0)
noncomputable abbrev value_Content_1 (a1 : List UInt8) (a2 : Bool) : Option (List UInt8 × Int) := (top CT).stage 27 [] 27 [1, 1, 0, 1, 1, 1, 1] { env := [(4, (.str a1)), (31, (.bool a2))], heap := [], salt := 0 }
noncomputable abbrev abacistref08_Content (x0 : Int × (Bool × List UInt8 × List UInt8) × List UInt8 × Bool × Int) : Option (List UInt8 × Int) := (top CT).callF 28 (x0)
noncomputable abbrev abacistref08_Content_1 (a1 : List UInt8) (a2 : Bool) : Option (List UInt8 × Int) := (top CT).stage 28 [] 28 [1, 0, 1, 1, 1, 1] { env := [(4, (.str a1)), (38, (.bool a2))], heap := [], salt := 0 }
noncomputable abbrev value_Right (x0 : Int × (Bool × List UInt8 × List UInt8) × List UInt8 × Bool × Int) : Option (Bool) := (top CT).callF 29 (x0)
noncomputable abbrev value_Named (x0 : List UInt8) : Option (Int × Bool) := (top CT).callF 30 (x0)
noncomputable abbrev value_Named_1 (a1 : List UInt8) : Option (Int × Bool) := (top CT).stage 30 [{ f := 30, path := [0, 0, 1], op := 0, rest := [1], env := [(0, (.str a1))], salt := 0 }] 102 [] { env := [], heap := [], salt := 7 }
noncomputable abbrev value_Named_2 (a1 : List UInt8) (a2 : List UInt8) (a3 : List UInt8) (a4 : List UInt8) (a5 : List UInt8) (a6 : List UInt8) (a7 : List UInt8) (a8 : List UInt8) (a9 : List UInt8) (a10 : Int) : Option (Int × Bool) := (top CT).stage 30 [] 30 [0, 1, 0, 1] { env := [(0, (.str a1)), (6, (.agg [(.str a2), (.str a3), (.str a4), (.str a5), (.str a6), (.str a7), (.str a8), (.str a9)])), (7, (.int .i64 a10))], heap := [], salt := 0 }
noncomputable abbrev value_Named_3 (a1 : List UInt8) (a2 : Int) (a3 : List UInt8) (a4 : List UInt8) (a5 : List UInt8) (a6 : List UInt8) (a7 : List UInt8) (a8 : List UInt8) (a9 : List UInt8) (a10 : List UInt8) (a11 : Int) (a12 : Bool) : Option (Int × Bool) := (top CT).stage 30 [] 30 [1, 1, 0, 0, 1, 1, 0, 0, 1, 0, 1] { env := [(0, (.str a1)), (4, (.int .i64 a2)), (6, (.agg [(.str a3), (.str a4), (.str a5), (.str a6), (.str a7), (.str a8), (.str a9), (.str a10)])), (7, (.int .i64 a11)), (17, (.bool a12))], heap := [], salt := 0 }
noncomputable abbrev abacistref08_Named (x0 : List UInt8) : Option (Int × Bool) := (top CT).callF 31 (x0)
noncomputable abbrev abacistref08_Named_1 (a1 : List UInt8) (a2 : Int) : Option (Int × Bool) := (top CT).stage 31 [] 31 [0, 1, 0, 1] { env := [(0, (.str a1)), (4, (.int .i64 a2))], heap := [], salt := 0 }
noncomputable abbrev value_Num (x0 : Bool × List UInt8 × List UInt8) : Option (Int × (Bool × List UInt8 × List UInt8) × List UInt8 × Bool × Int) := (top CT).callF 32 (x0)
noncomputable abbrev value_Num_1 (a1 : Bool × List UInt8 × List UInt8) (a2 : Int × (Bool × List UInt8 × List UInt8) × List UInt8 × Bool × Int) : Option (Int × (Bool × List UInt8 × List UInt8) × List UInt8 × Bool × Int) := (top CT).stage 32 [] 32 [1, 1] { env := [(1, (.ptr 16 0)), (2, (.ptr 32 0))], heap := [(16, .box [(.bool a1.1), (.str a1.2.1), (.str a1.2.2)]), (32, .box [(.int .i64 a2.1), (.bool a2.2.1.1), (.str a2.2.1.2.1), (.str a2.2.1.2.2), (.str a2.2.2.1), (.bool a2.2.2.2.1), (.int .i64 a2.2.2.2.2)])], salt := 0 }
noncomputable abbrev abacistref08_Num (x0 : Bool × List UInt8 × List UInt8) : Option (Int × (Bool × List UInt8 × List UInt8) × List UInt8 × Bool × Int) := (top CT).callF 33 (x0)
noncomputable abbrev value_Text (x0 : List UInt8) : Option (Int × (Bool × List UInt8 × List UInt8) × List UInt8 × Bool × Int) := (top CT).callF 34 (x0)
noncomputable abbrev abacistref08_Text (x0 : List UInt8) : Option (Int × (Bool × List UInt8 × List UInt8) × List UInt8 × Bool × Int) := (top CT).callF 35 (x0)
noncomputable abbrev value_Truth (x0 : Bool) : Option (Int × (Bool × List UInt8 × List UInt8) × List UInt8 × Bool × Int) := (top CT).callF 36 (x0)
noncomputable abbrev abacistref08_Truth (x0 : Bool) : Option (Int × (Bool × List UInt8 × List UInt8) × List UInt8 × Bool × Int) := (top CT).callF 37 (x0)
noncomputable abbrev value_Fault (x0 : Int) : Option (Int × (Bool × List UInt8 × List UInt8) × List UInt8 × Bool × Int) := (top CT).callF 38 (x0)
noncomputable abbrev value_Fault_1 (a1 : Int) (a2 : Int × (Bool × List UInt8 × List UInt8) × List UInt8 × Bool × Int) : Option (Int × (Bool × List UInt8 × List UInt8) × List UInt8 × Bool × Int) := (top CT).stage 38 [] 38 [1, 1] { env := [(0, (.int .i64 a1)), (2, (.ptr 32 0))], heap := [(32, .box [(.int .i64 a2.1), (.bool a2.2.1.1), (.str a2.2.1.2.1), (.str a2.2.1.2.2), (.str a2.2.2.1), (.bool a2.2.2.2.1), (.int .i64 a2.2.2.2.2)])], salt := 0 }
noncomputable abbrev abacistref08_Fault (x0 : Int) : Option (Int × (Bool × List UInt8 × List UInt8) × List UInt8 × Bool × Int) := (top CT).callF 39 (x0)
noncomputable abbrev abacistref08_Fault_1 (a1 : Int) (a2 : Bool) (a3 : Int × (Bool × List UInt8 × List UInt8) × List UInt8 × Bool × Int) : Option (Int × (Bool × List UInt8 × List UInt8) × List UInt8 × Bool × Int) := (top CT).stage 39 [] 39 [1, 0, 1] { env := [(0, (.int .i64 a1)), (2, (.ptr 32 0)), (8, (.bool a2))], heap := [(32, .box [(.int .i64 a3.1), (.bool a3.2.1.1), (.str a3.2.1.2.1), (.str a3.2.1.2.2), (.str a3.2.2.1), (.bool a3.2.2.2.1), (.int .i64 a3.2.2.2.2)])], salt := 0 }
noncomputable abbrev abacistref08_Fault_2 (a1 : Int) (a2 : Int × (Bool × List UInt8 × List UInt8) × List UInt8 × Bool × Int) : Option (Int × (Bool × List UInt8 × List UInt8) × List UInt8 × Bool × Int) := (top CT).stage 39 [] 39 [1, 1] { env := [(0, (.int .i64 a1)), (2, (.ptr 32 0))], heap := [(32, .box [(.int .i64 a2.1), (.bool a2.2.1.1), (.str a2.2.1.2.1), (.str a2.2.1.2.2), (.str a2.2.2.1), (.bool a2.2.2.2.1), (.int .i64 a2.2.2.2.2)])], salt := 0 }
noncomputable abbrev value_Of (x0 : Bool × List UInt8 × List UInt8) (x1 : Int) : Option (Int × (Bool × List UInt8 × List UInt8) × List UInt8 × Bool × Int) := (top CT).callF 40 (x0, x1)
noncomputable abbrev abacistref08_Of (x0 : Bool × List UInt8 × List UInt8) (x1 : Int) : Option (Int × (Bool × List UInt8 × List UInt8) × List UInt8 × Bool × Int) := (top CT).callF 41 (x0, x1)
noncomputable abbrev value_Name (x0 : Int) : Option (List UInt8) := (top CT).callF 42 (x0)
noncomputable abbrev value_Name_1 (a1 : Int) : Option (List UInt8) := (top CT).stage 42 [{ f := 42, path := [0, 1], op := 0, rest := [1, 2], env := [(0, (.int .i64 a1))], salt := 0 }] 102 [] { env := [], heap := [], salt := 5 }
noncomputable abbrev value_Name_2 (a1 : Int) (a2 : Bool) (a3 : List UInt8) (a4 : List UInt8) (a5 : List UInt8) (a6 : List UInt8) (a7 : List UInt8) (a8 : List UInt8) (a9 : List UInt8) (a10 : List UInt8) : Option (List UInt8) := (top CT).stage 42 [] 42 [1, 0, 1, 1] { env := [(0, (.int .i64 a1)), (3, (.ptr 48 0)), (10, (.bool a2))], heap := [(48, .box [(.str a3), (.str a4), (.str a5), (.str a6), (.str a7), (.str a8), (.str a9), (.str a10)])], salt := 0 }
noncomputable abbrev abacistref08_Name (x0 : Int) : Option (List UInt8) := (top CT).callF 43 (x0)
noncomputable abbrev abacistref08_Name_1 (a1 : Int) (a2 : Bool) : Option (List UInt8) := (top CT).stage 43 [] 43 [1, 0, 1] { env := [(0, (.int .i64 a1)), (8, (.bool a2))], heap := [], salt := 0 }
noncomputable abbrev abacistref08_Right (x0 : Int × (Bool × List UInt8 × List UInt8) × List UInt8 × Bool × Int) : Option (Bool) := (top CT).callF 44 (x0)
noncomputable abbrev value_Show (x0 : Int × (Bool × List UInt8 × List UInt8) × List UInt8 × Bool × Int) : Option (List UInt8) := (top CT).callF 45 (x0)
noncomputable abbrev abacistref08_Show (x0 : Int × (Bool × List UInt8 × List UInt8) × List UInt8 × Bool × Int) : Option (List UInt8) := (top CT).callF 46 (x0)
noncomputable abbrev coerce_Cmp (x0 : Int × (Bool × List UInt8 × List UInt8) × List UInt8 × Bool × Int) (x1 : Int × (Bool × List UInt8 × List UInt8) × List UInt8 × Bool × Int) : Option (Int × Int) := (top CT).callF 47 (x0, x1)
noncomputable abbrev coerce_Cmp_1 (a1 : Int) (a2 : Bool) (a3 : List UInt8) (a4 : List UInt8) (a5 : List UInt8) (a6 : Bool) (a7 : Int) (a8 : Int) (a9 : Bool) (a10 : List UInt8) (a11 : List UInt8) (a12 : List UInt8) (a13 : Bool) (a14 : Int) (a15 : Int × (Bool × List UInt8 × List UInt8) × List UInt8 × Bool × Int) (a16 : Int × (Bool × List UInt8 × List UInt8) × List UInt8 × Bool × Int) : Option (Int × Int) := (top CT).stage 47 [{ f := 47, path := [0, 0, 1], op := 4, rest := [5], env := [(2, (.ptr 32 0)), (3, (.ptr 48 0))], salt := 0 }] 106 [] { env := [(0, (.func 107 [(.agg [(.int .i64 a1), (.bool a2), (.str a3), (.str a4), (.str a5), (.bool a6), (.int .i64 a7)])] [])), (1, (.func 107 [(.agg [(.int .i64 a8), (.bool a9), (.str a10), (.str a11), (.str a12), (.bool a13), (.int .i64 a14)])] []))], heap := [(32, .box [(.int .i64 a15.1), (.bool a15.2.1.1), (.str a15.2.1.2.1), (.str a15.2.1.2.2), (.str a15.2.2.1), (.bool a15.2.2.2.1), (.int .i64 a15.2.2.2.2)]), (48, .box [(.int .i64 a16.1), (.bool a16.2.1.1), (.str a16.2.1.2.1), (.str a16.2.1.2.2), (.str a16.2.2.1), (.bool a16.2.2.2.1), (.int .i64 a16.2.2.2.2)])], salt := 12 }
noncomputable abbrev coerce_Cmp_2 (a1 : Int) (a2 : Int × (Bool × List UInt8 × List UInt8) × List UInt8 × Bool × Int) (a3 : Int × (Bool × List UInt8 × List UInt8) × List UInt8 × Bool × Int) : Option (Int × Int) := (top CT).stage 47 [] 47 [1, 0, 1] { env := [(2, (.ptr 32 0)), (3, (.ptr 48 0)), (6, (.int .i64 a1))], heap := [(32, .box [(.int .i64 a2.1), (.bool a2.2.1.1), (.str a2.2.1.2.1), (.str a2.2.1.2.2), (.str a2.2.2.1), (.bool a2.2.2.2.1), (.int .i64 a2.2.2.2.2)]), (48, .box [(.int .i64 a3.1), (.bool a3.2.1.1), (.str a3.2.1.2.1), (.str a3.2.1.2.2), (.str a3.2.2.1), (.bool a3.2.2.2.1), (.int .i64 a3.2.2.2.2)])], salt := 0 }
noncomputable abbrev coerce_First (x0 : List (Int × (Bool × List UInt8 × List UInt8) × List UInt8 × Bool × Int)) : Option (Int) := (top CT).callF 49 (x0)
noncomputable abbrev coerce_First_1 (a1 : List (Int × (Bool × List UInt8 × List UInt8) × List UInt8 × Bool × Int)) (a2 : Int) (a3 : Int) : Option (Int) := (top CT).stage 49 [] 49 [0, 1, 0, 1] { env := [(6, (.sl (.pair (.int .i64) (.pair (.pair .bool (.pair .str .str)) (.pair .str (.pair .bool (.int .i64))))) a1 false)), (7, (.int .i64 a2)), (8, (.int .i64 a3))], heap := [], salt := 0 }
noncomputable abbrev abacistlaw09_known : Option (Bool) := (top CT).callF 51 ()
noncomputable abbrev abacistref05_Cmp (x0 : Bool × List UInt8 × List UInt8) (x1 : Bool × List UInt8 × List UInt8) : Option (Int) := (top CT).callF 52 (x0, x1)
noncomputable abbrev coerce_Num (x0 : Int × (Bool × List UInt8 × List UInt8) × List UInt8 × Bool × Int) : Option ((Bool × List UInt8 × List UInt8) × Int) := (top CT).callF 53 (x0)
noncomputable abbrev abacistref09_Num (x0 : Int × (Bool × List UInt8 × List UInt8) × List UInt8 × Bool × Int) : Option ((Bool × List UInt8 × List UInt8) × Int) := (top CT).callF 54 (x0)
noncomputable abbrev coerce_Text (x0 : Int × (Bool × List UInt8 × List UInt8) × List UInt8 × Bool × Int) : Option (List UInt8 × Int) := (top CT).callF 55 (x0)
noncomputable abbrev abacistref09_Text (x0 : Int × (Bool × List UInt8 × List UInt8) × List UInt8 × Bool × Int) : Option (List UInt8 × Int) := (top CT).callF 56 (x0)
noncomputable abbrev coerce_Truth (x0 : Int × (Bool × List UInt8 × List UInt8) × List UInt8 × Bool × Int) : Option (Bool × Int) := (top CT).callF 57 (x0)
noncomputable abbrev coerce_Truth_1 (a1 : Bool) (a2 : Int × (Bool × List UInt8 × List UInt8) × List UInt8 × Bool × Int) : Option (Bool × Int) := (top CT).stage 57 [] 57 [1, 1, 0, 0, 1, 1, 1, 0, 1, 0, 1, 1] { env := [(1, (.ptr 16 0)), (34, (.bool a1))], heap := [(16, .box [(.int .i64 a2.1), (.bool a2.2.1.1), (.str a2.2.1.2.1), (.str a2.2.1.2.2), (.str a2.2.2.1), (.bool a2.2.2.2.1), (.int .i64 a2.2.2.2.2)])], salt := 0 }
noncomputable abbrev abacistref09_Truth (x0 : Int × (Bool × List UInt8 × List UInt8) × List UInt8 × Bool × Int) : Option (Bool × Int) := (top CT).callF 58 (x0)
noncomputable abbrev abacistref09_Truth_1 (a1 : Bool) (a2 : Int × (Bool × List UInt8 × List UInt8) × List UInt8 × Bool × Int) : Option (Bool × Int) := (top CT).stage 58 [] 58 [1, 0, 0, 1, 1, 1, 0, 1, 1, 1] { env := [(1, (.ptr 16 0)), (28, (.bool a1))], heap := [(16, .box [(.int .i64 a2.1), (.bool a2.2.1.1), (.str a2.2.1.2.1), (.str a2.2.1.2.2), (.str a2.2.2.1), (.bool a2.2.2.2.1), (.int .i64 a2.2.2.2.2)])], salt := 0 }
noncomputable abbrev numtext_well (x0 : Bool × List UInt8 × List UInt8) : Option (Bool × List UInt8 × List UInt8) := (top CT).callF 66 (x0)
noncomputable abbrev dec_Text (x0 : List UInt8) : Option (List UInt8) := (top CT).callF 67 (x0)
noncomputable abbrev divide_DivMod (x0 : List UInt8) (x1 : List UInt8) : Option (List UInt8 × List UInt8 × Int) := (top CT).callF 68 (x0, x1)
noncomputable abbrev nat_Mul (x0 : List UInt8) (x1 : List UInt8) : Option (List UInt8) := (top CT).callF 69 (x0, x1)
noncomputable abbrev numtext_power (x0 : Int) (x1 : Int) : Option (List UInt8) := (top CT).callF 70 (x0, x1)
noncomputable abbrev strings_Repeat (x0 : List UInt8) (x1 : Int) : Option (List UInt8) := (top CT).callF 71 (x0, x1)
noncomputable abbrev abacistref04_Mul (x0 : Bool × List UInt8) (x1 : Bool × List UInt8) : Option (Bool × List UInt8) := (top CT).callF 72 (x0, x1)
noncomputable abbrev abacistref04_Make (x0 : Bool) (x1 : List UInt8) : Option (Bool × List UInt8) := (top CT).callF 73 (x0, x1)
noncomputable abbrev abacistref05_Top (x0 : Bool × List UInt8 × List UInt8) : Option (Bool × List UInt8) := (top CT).callF 74 (x0)
noncomputable abbrev abacistref07_power (x0 : List UInt8) (x1 : Int) : Option (List UInt8) := (top CT).callF 75 (x0, x1)
noncomputable abbrev abacistref03_Text (x0 : List UInt8) : Option (List UInt8) := (top CT).callF 76 (x0)
noncomputable abbrev abacistref03_Text_1 (a1 : List UInt8) (a2 : List UInt8) (a3 : Int) : Option (List UInt8) := (top CT).stage 76 [] 76 [0, 1, 0, 1, 1, 1] { env := [(0, (.str a1)), (3, (.str a2)), (4, (.int .i64 a3))], heap := [], salt := 0 }
noncomputable abbrev abacistref03_Text_2 (a1 : List UInt8) (a2 : List UInt8) (a3 : Int) (a4 : Bool) : Option (List UInt8) := (top CT).stage 76 [] 76 [1, 0, 0, 0, 1, 0, 1, 1, 1] { env := [(0, (.str a1)), (3, (.str a2)), (4, (.int .i64 a3)), (21, (.bool a4))], heap := [], salt := 0 }
noncomputable abbrev abacistref02_Div (x0 : List UInt8) (x1 : List UInt8) : Option (List UInt8) := (top CT).callF 77 (x0, x1)
noncomputable abbrev abacistref05_Low (x0 : Bool × List UInt8 × List UInt8) : Option (Bool × List UInt8) := (top CT).callF 78 (x0)
noncomputable abbrev dec_Twos (x0 : List UInt8) : Option (Int × Int) := (top CT).callF 79 (x0)
noncomputable abbrev abacistref03_Twos (x0 : List UInt8) : Option (Int × Int) := (top CT).callF 80 (x0)
noncomputable abbrev abacistref05_Sign (x0 : Bool × List UInt8 × List UInt8) : Option (Int) := (top CT).callF 81 (x0)
noncomputable abbrev strings_CutPrefix (x0 : List UInt8) (x1 : List UInt8) : Option (List UInt8 × Bool) := (top CT).callF 82 (x0, x1)
noncomputable abbrev strings_Cut (x0 : List UInt8) (x1 : List UInt8) : Option (List UInt8 × List UInt8 × Bool) := (top CT).callF 83 (x0, x1)
noncomputable abbrev numtext_fraction (x0 : List UInt8) (x1 : List UInt8) : Option ((Bool × List UInt8 × List UInt8) × Int) := (top CT).callF 84 (x0, x1)
noncomputable abbrev numtext_fraction_1 (a1 : List UInt8) (a2 : Int) (a3 : List UInt8) (a4 : Int) (a5 : Bool) (a6 : Bool × List UInt8 × List UInt8) : Option ((Bool × List UInt8 × List UInt8) × Int) := (top CT).stage 84 [] 84 [1, 0, 0, 0, 0, 0, 0, 0, 0, 0, 0, 1, 1, 1] { env := [(4, (.ptr 64 0)), (6, (.str a1)), (7, (.int .i64 a2)), (8, (.str a3)), (9, (.int .i64 a4)), (20, (.bool a5))], heap := [(64, .box [(.bool a6.1), (.str a6.2.1), (.str a6.2.2)])], salt := 0 }
noncomputable abbrev numtext_fraction_2 (a1 : List UInt8) (a2 : Int) (a3 : List UInt8) (a4 : Bool × List UInt8 × List UInt8) : Option ((Bool × List UInt8 × List UInt8) × Int) := (top CT).stage 84 [] 84 [1, 0, 0, 1, 1, 1] { env := [(4, (.ptr 64 0)), (6, (.str a1)), (7, (.int .i64 a2)), (8, (.str a3))], heap := [(64, .box [(.bool a4.1), (.str a4.2.1), (.str a4.2.2)])], salt := 0 }
noncomputable abbrev rat_Neg (x0 : Bool × List UInt8 × List UInt8) : Option (Bool × List UInt8 × List UInt8) := (top CT).callF 85 (x0)
noncomputable abbrev rat_Neg_1 (a1 : Bool × List UInt8 × List UInt8) (a2 : Bool × List UInt8 × List UInt8) : Option (Bool × List UInt8 × List UInt8) := (top CT).stage 85 [] 85 [1, 1, 1] { env := [(1, (.ptr 16 0)), (2, (.ptr 32 0))], heap := [(16, .box [(.bool a1.1), (.str a1.2.1), (.str a1.2.2)]), (32, .box [(.bool a2.1), (.str a2.2.1), (.str a2.2.2)])], salt := 0 }
noncomputable abbrev numtext_digits (x0 : List UInt8) : Option (Bool) := (top CT).callF 86 (x0)
noncomputable abbrev numtext_digits_1 (a1 : List UInt8) (a2 : List Int) (a3 : Int) (a4 : Int) : Option (Bool) := (top CT).stage 86 [] 86 [0, 1, 0, 1] { env := [(0, (.str a1)), (6, (.sl (.int .u8) a2 false)), (7, (.int .i64 a3)), (8, (.int .i64 a4))], heap := [], salt := 0 }
noncomputable abbrev numtext_digits_2 (a1 : List UInt8) (a2 : List Int) (a3 : Int) (a4 : Int) (a5 : Bool) : Option (Bool) := (top CT).stage 86 [] 86 [1, 1, 0, 0, 1, 1, 0, 0, 1, 0, 1] { env := [(0, (.str a1)), (6, (.sl (.int .u8) a2 false)), (7, (.int .i64 a3)), (8, (.int .i64 a4)), (17, (.bool a5))], heap := [], salt := 0 }
noncomputable abbrev dec_Parse (x0 : List UInt8) : Option (List UInt8 × Int) := (top CT).callF 87 (x0)
noncomputable abbrev dec_Parse_1 (a1 : List UInt8) (a2 : Bool) : Option (List UInt8 × Int) := (top CT).stage 87 [] 87 [1, 0, 0, 1] { env := [(0, (.str a1)), (10, (.bool a2))], heap := [], salt := 0 }
noncomputable abbrev dec_Parse_2 (a1 : List UInt8) (a2 : List UInt8) : Option (List UInt8 × Int) := (top CT).stage 87 [] 87 [0, 0, 1, 1, 1] { env := [(0, (.str a1)), (4, (.str a2))], heap := [], salt := 0 }
noncomputable abbrev dec_Parse_3 (a1 : List UInt8) (a2 : List UInt8) (a3 : Int) (a4 : Int) (a5 : Int) (a6 : List Int) (a7 : Int) (a8 : Int) : Option (List UInt8 × Int) := (top CT).stage 87 [] 87 [0, 1, 0, 1, 1, 0, 1, 0, 0, 0, 1, 1, 1] { env := [(0, (.str a1)), (4, (.str a2)), (5, (.int .i64 a3)), (6, (.int .u64 a4)), (7, (.int .u64 a5)), (30, (.sl (.int .u8) a6 false)), (31, (.int .i64 a7)), (32, (.int .i64 a8))], heap := [], salt := 0 }
noncomputable abbrev rat_Make (x0 : Bool × List UInt8) (x1 : Bool × List UInt8) : Option ((Bool × List UInt8 × List UInt8) × Int) := (top CT).callF 88 (x0, x1)
noncomputable abbrev rat_Make_1 (a1 : List UInt8) (a2 : List UInt8) (a3 : Bool × List UInt8) (a4 : Bool × List UInt8) (a5 : Bool × List UInt8 × List UInt8) : Option ((Bool × List UInt8 × List UInt8) × Int) := (top CT).stage 88 [] 88 [1, 1, 1, 1] { env := [(2, (.ptr 32 0)), (3, (.ptr 48 0)), (4, (.ptr 64 0)), (6, (.str a1)), (7, (.str a2))], heap := [(32, .box [(.bool a3.1), (.str a3.2)]), (48, .box [(.bool a4.1), (.str a4.2)]), (64, .box [(.bool a5.1), (.str a5.2.1), (.str a5.2.2)])], salt := 0 }
noncomputable abbrev rat_Make_2 (a1 : List UInt8) (a2 : List UInt8) (a3 : Bool) (a4 : Bool × List UInt8) (a5 : Bool × List UInt8) (a6 : Bool × List UInt8 × List UInt8) : Option ((Bool × List UInt8 × List UInt8) × Int) := (top CT).stage 88 [] 88 [1, 0, 1, 1, 1, 1] { env := [(2, (.ptr 32 0)), (3, (.ptr 48 0)), (4, (.ptr 64 0)), (6, (.str a1)), (7, (.str a2)), (44, (.bool a3))], heap := [(32, .box [(.bool a4.1), (.str a4.2)]), (48, .box [(.bool a5.1), (.str a5.2)]), (64, .box [(.bool a6.1), (.str a6.2.1), (.str a6.2.2)])], salt := 0 }
noncomputable abbrev whole_Make (x0 : Bool) (x1 : List UInt8) : Option (Bool × List UInt8) := (top CT).callF 89 (x0, x1)
noncomputable abbrev abacistref05_Right (x0 : Bool × List UInt8 × List UInt8) : Option (Bool) := (top CT).callF 90 (x0)
noncomputable abbrev abacistref05_Right_1 (a1 : Bool) (a2 : Bool × List UInt8 × List UInt8) : Option (Bool) := (top CT).stage 90 [] 90 [1, 0, 1] { env := [(1, (.ptr 16 0)), (33, (.bool a1))], heap := [(16, .box [(.bool a2.1), (.str a2.2.1), (.str a2.2.2)])], salt := 0 }
noncomputable abbrev abacistref05_Zero : Option (Bool × List UInt8 × List UInt8) := (top CT).callF 91 ()
noncomputable abbrev abacistref07_find (x0 : List UInt8) (x1 : Int) : Option (Int) := (top CT).callF 92 (x0, x1)
noncomputable abbrev abacistref07_find_1 (a1 : List UInt8) (a2 : Int) (a3 : Int) : Option (Int) := (top CT).stage 92 [] 92 [0, 1, 0, 1] { env := [(0, (.str a1)), (1, (.int .u8 a2)), (5, (.int .i64 a3))], heap := [], salt := 0 }
noncomputable abbrev abacistref07_fraction (x0 : List UInt8) (x1 : List UInt8) : Option ((Bool × List UInt8 × List UInt8) × Int) := (top CT).callF 93 (x0, x1)
noncomputable abbrev abacistref07_fraction_1 (a1 : List UInt8) (a2 : Int) (a3 : List UInt8) (a4 : Int) (a5 : Bool) (a6 : Bool × List UInt8 × List UInt8) : Option ((Bool × List UInt8 × List UInt8) × Int) := (top CT).stage 93 [] 93 [1, 0, 1, 1, 1] { env := [(4, (.ptr 64 0)), (6, (.str a1)), (7, (.int .i64 a2)), (8, (.str a3)), (9, (.int .i64 a4)), (25, (.bool a5))], heap := [(64, .box [(.bool a6.1), (.str a6.2.1), (.str a6.2.2)])], salt := 0 }
noncomputable abbrev abacistref07_fraction_2 (a1 : List UInt8) (a2 : List UInt8) (a3 : Bool) (a4 : Bool × List UInt8 × List UInt8) : Option ((Bool × List UInt8 × List UInt8) × Int) := (top CT).stage 93 [] 93 [1, 0, 1, 1, 1, 1] { env := [(4, (.ptr 64 0)), (6, (.str a1)), (8, (.str a2)), (32, (.bool a3))], heap := [(64, .box [(.bool a4.1), (.str a4.2.1), (.str a4.2.2)])], salt := 0 }
noncomputable abbrev abacistref05_Neg (x0 : Bool × List UInt8 × List UInt8) : Option (Bool × List UInt8 × List UInt8) := (top CT).callF 94 (x0)
noncomputable abbrev abacistref07_digits (x0 : List UInt8) : Option (Bool) := (top CT).callF 95 (x0)
noncomputable abbrev abacistref07_digits_1 (a1 : List UInt8) (a2 : Int) : Option (Bool) := (top CT).stage 95 [] 95 [0, 1, 0, 1] { env := [(0, (.str a1)), (3, (.int .i64 a2))], heap := [], salt := 0 }
noncomputable abbrev abacistref07_digits_2 (a1 : List UInt8) (a2 : Int) (a3 : Bool) : Option (Bool) := (top CT).stage 95 [] 95 [1, 0, 0, 1, 0, 0, 1, 0, 1] { env := [(0, (.str a1)), (3, (.int .i64 a2)), (19, (.bool a3))], heap := [], salt := 0 }
noncomputable abbrev abacistref03_Parse (x0 : List UInt8) : Option (List UInt8 × Int) := (top CT).callF 96 (x0)
noncomputable abbrev abacistref03_Parse_1 (a1 : List UInt8) (a2 : Int) : Option (List UInt8 × Int) := (top CT).stage 96 [] 96 [0, 1, 0, 1] { env := [(0, (.str a1)), (4, (.int .i64 a2))], heap := [], salt := 0 }
noncomputable abbrev abacistref03_Parse_2 (a1 : List UInt8) (a2 : Int) (a3 : Bool) : Option (List UInt8 × Int) := (top CT).stage 96 [] 96 [1, 0, 0, 1, 0, 0, 1, 0, 1] { env := [(0, (.str a1)), (4, (.int .i64 a2)), (22, (.bool a3))], heap := [], salt := 0 }
noncomputable abbrev abacistref03_Parse_3 (a1 : List UInt8) (a2 : List UInt8) (a3 : Int) : Option (List UInt8 × Int) := (top CT).stage 96 [] 96 [0, 1, 0, 1, 1, 1, 1, 1] { env := [(0, (.str a1)), (5, (.str a2)), (6, (.int .i64 a3))], heap := [], salt := 0 }
noncomputable abbrev abacistref05_Make (x0 : Bool × List UInt8) (x1 : Bool × List UInt8) : Option ((Bool × List UInt8 × List UInt8) × Int) := (top CT).callF 97 (x0, x1)
noncomputable abbrev abacistref05_Make_1 (a1 : List UInt8) (a2 : List UInt8) (a3 : Bool) (a4 : Bool × List UInt8 × List UInt8) (a5 : Bool × List UInt8) (a6 : Bool × List UInt8) : Option ((Bool × List UInt8 × List UInt8) × Int) := (top CT).stage 97 [] 97 [1, 0, 1, 1, 1, 1, 1, 1, 1] { env := [(4, (.ptr 64 0)), (6, (.ptr 96 0)), (7, (.ptr 112 0)), (9, (.str a1)), (10, (.str a2)), (45, (.bool a3))], heap := [(64, .box [(.bool a4.1), (.str a4.2.1), (.str a4.2.2)]), (96, .box [(.bool a5.1), (.str a5.2)]), (112, .box [(.bool a6.1), (.str a6.2)])], salt := 0 }
noncomputable abbrev abacistref05_Of (x0 : Int) : Option (Bool × List UInt8 × List UInt8) := (top CT).callF 98 (x0)
noncomputable abbrev value_plain (x0 : List UInt8) : Option (Bool) := (top CT).callF 99 (x0)
noncomputable abbrev value_plain_1 (a1 : List UInt8) (a2 : List Int) (a3 : Int) (a4 : Int) : Option (Bool) := (top CT).stage 99 [] 99 [0, 1, 0, 1] { env := [(0, (.str a1)), (6, (.sl (.int .u8) a2 false)), (7, (.int .i64 a3)), (8, (.int .i64 a4))], heap := [], salt := 0 }
noncomputable abbrev value_plain_2 (a1 : List UInt8) (a2 : List Int) (a3 : Int) (a4 : Int) (a5 : Bool) : Option (Bool) := (top CT).stage 99 [] 99 [1, 1, 0, 0, 1, 1, 0, 0, 1, 0, 1] { env := [(0, (.str a1)), (6, (.sl (.int .u8) a2 false)), (7, (.int .i64 a3)), (8, (.int .i64 a4)), (17, (.bool a5))], heap := [], salt := 0 }
noncomputable abbrev abacistref08_Plain (x0 : List UInt8) : Option (Bool) := (top CT).callF 100 (x0)
noncomputable abbrev abacistref08_Plain_1 (a1 : List UInt8) (a2 : Int) : Option (Bool) := (top CT).stage 100 [] 100 [0, 1, 0, 1, 1] { env := [(0, (.str a1)), (3, (.int .i64 a2))], heap := [], salt := 0 }
noncomputable abbrev abacistref08_Plain_2 (a1 : List UInt8) (a2 : Int) (a3 : Bool) : Option (Bool) := (top CT).stage 100 [] 100 [1, 0, 0, 1, 0, 0, 1, 0, 1, 1] { env := [(0, (.str a1)), (3, (.int .i64 a2)), (22, (.bool a3))], heap := [], salt := 0 }
noncomputable abbrev strings_HasPrefix (x0 : List UInt8) (x1 : List UInt8) : Option (Bool) := (top CT).callF 101 (x0, x1)
noncomputable abbrev rat_Right (x0 : Bool × List UInt8 × List UInt8) : Option (Bool) := (top CT).callF 103 (x0)
noncomputable abbrev rat_Right_1 (a1 : Bool) (a2 : Bool × List UInt8 × List UInt8) : Option (Bool) := (top CT).stage 103 [] 103 [1, 0, 0, 1] { env := [(1, (.ptr 16 0)), (3, (.bool a1))], heap := [(16, .box [(.bool a2.1), (.str a2.2.1), (.str a2.2.2)])], salt := 0 }
noncomputable abbrev rat_Of (x0 : Int) : Option (Bool × List UInt8 × List UInt8) := (top CT).callF 104 (x0)
noncomputable abbrev abacistref08_names : Option (List (List UInt8)) := (top CT).callF 105 ()
noncomputable abbrev coerce_cell_fault (x0 : Int × (Bool × List UInt8 × List UInt8) × List UInt8 × Bool × Int) : Option (Int) := (top CT).callF 107 (x0)
noncomputable abbrev coerce_like (x0 : Int × (Bool × List UInt8 × List UInt8) × List UInt8 × Bool × Int) (x1 : Int) : Option (Int × (Bool × List UInt8 × List UInt8) × List UInt8 × Bool × Int) := (top CT).callF 108 (x0, x1)
noncomputable abbrev cmp_Compare_int (x0 : Int) (x1 : Int) : Option (Int) := (top CT).callF 109 (x0, x1)
noncomputable abbrev rat_Cmp (x0 : Bool × List UInt8 × List UInt8) (x1 : Bool × List UInt8 × List UInt8) : Option (Int) := (top CT).callF 110 (x0, x1)
noncomputable abbrev cmp_Or_int (x0 : List Int) : Option (Int) := (top CT).callF 111 (x0)
noncomputable abbrev cmp_Or_int_1 (a1 : Int) (a2 : List Int) (a3 : Int) (a4 : Int) : Option (Int) := (top CT).stage 111 [] 111 [0, 1, 0, 1, 1] { env := [(3, (.int .i64 a1)), (6, (.sl (.int .i64) a2 false)), (7, (.int .i64 a3)), (8, (.int .i64 a4))], heap := [], salt := 0 }
noncomputable abbrev cmp_Compare_string (x0 : List UInt8) (x1 : List UInt8) : Option (Int) := (top CT).callF 112 (x0, x1)
noncomputable abbrev cmp_Compare_int64 (x0 : Int) (x1 : Int) : Option (Int) := (top CT).callF 113 (x0, x1)
noncomputable abbrev coerce_bit (x0 : Bool) : Option (Int) := (top CT).callF 114 (x0)
noncomputable abbrev abacistref09_fault (x0 : Int × (Bool × List UInt8 × List UInt8) × List UInt8 × Bool × Int) : Option (Int) := (top CT).callF 115 (x0)
noncomputable abbrev abacistref04_Cmp (x0 : Bool × List UInt8) (x1 : Bool × List UInt8) : Option (Int) := (top CT).callF 120 (x0, x1)
noncomputable abbrev rat_Sign (x0 : Bool × List UInt8 × List UInt8) : Option (Int) := (top CT).callF 121 (x0)
noncomputable abbrev nat_Trim (x0 : List UInt8) : Option (List UInt8) := (top CT).callF 136 (x0)
noncomputable abbrev nat_Of (x0 : Int) : Option (List UInt8) := (top CT).callF 137 (x0)
noncomputable abbrev nat_Cmp (x0 : List UInt8) (x1 : List UInt8) : Option (Int) := (top CT).callF 144 (x0, x1)
noncomputable abbrev divide_Pow (x0 : List UInt8) (x1 : Int) : Option (List UInt8 × Int) := (top CT).callF 151 (x0, x1)
noncomputable abbrev abacistref04_well (x0 : Bool × List UInt8) : Option (Bool × List UInt8) := (top CT).callF 155 (x0)
noncomputable abbrev abacistref01_Mul (x0 : List UInt8) (x1 : List UInt8) : Option (List UInt8) := (top CT).callF 156 (x0, x1)
noncomputable abbrev abacistref01_Trim (x0 : List UInt8) : Option (List UInt8) := (top CT).callF 157 (x0)
noncomputable abbrev abacistref02_Pow (x0 : List UInt8) (x1 : Int) : Option (List UInt8 × Int) := (top CT).callF 158 (x0, x1)
noncomputable abbrev abacistref02_DivMod (x0 : List UInt8) (x1 : List UInt8) : Option (List UInt8 × List UInt8 × Int) := (top CT).callF 159 (x0, x1)
noncomputable abbrev abacistref01_Small (x0 : List UInt8) : Option (Int × Bool) := (top CT).callF 160 (x0)
noncomputable abbrev dec_often (x0 : List UInt8) (x1 : Int) : Option (Int) := (top CT).callF 161 (x0, x1)
noncomputable abbrev dec_often_1 (a1 : List UInt8) (a2 : Int) (a3 : Int) : Option (Int) := (top CT).stage 161 [] 161 [0, 0, 1, 1] { env := [(0, (.str a1)), (1, (.int .u64 a2)), (5, (.int .i64 a3))], heap := [], salt := 0 }
noncomputable abbrev dec_often_2 (a1 : Int) (a2 : Int) (a3 : List UInt8) (a4 : Bool) : Option (Int) := (top CT).stage 161 [] 161 [1, 0, 1, 0, 1, 0, 0, 0, 1, 1] { env := [(1, (.int .u64 a1)), (5, (.int .i64 a2)), (6, (.str a3)), (24, (.bool a4))], heap := [], salt := 0 }
noncomputable abbrev abacistref03_often (x0 : List UInt8) (x1 : List UInt8) : Option (Int) := (top CT).callF 162 (x0, x1)
noncomputable abbrev abacistref03_often_1 (a1 : List UInt8) (a2 : List UInt8) (a3 : Int) (a4 : Int) : Option (Int) := (top CT).stage 162 [] 162 [0, 1, 0, 1, 1] { env := [(0, (.str a1)), (1, (.str a2)), (5, (.int .i64 a3)), (6, (.int .i64 a4))], heap := [], salt := 0 }
noncomputable abbrev abacistref03_often_2 (a1 : List UInt8) (a2 : List UInt8) (a3 : Int) (a4 : Int) (a5 : Bool) : Option (Int) := (top CT).stage 162 [] 162 [1, 0, 0, 0, 1, 0, 1, 1] { env := [(0, (.str a1)), (1, (.str a2)), (5, (.int .i64 a3)), (6, (.int .i64 a4)), (15, (.bool a5))], heap := [], salt := 0 }
noncomputable abbrev internal_stringslite_CutPrefix (x0 : List UInt8) (x1 : List UInt8) : Option (List UInt8 × Bool) := (top CT).callF 163 (x0, x1)
noncomputable abbrev rat_well (x0 : Bool × List UInt8 × List UInt8) : Option (Bool × List UInt8 × List UInt8) := (top CT).callF 165 (x0)
noncomputable abbrev dec_odd (x0 : List UInt8) : Option (Bool) := (top CT).callF 166 (x0)
noncomputable abbrev dec_odd_1 (a1 : List Int) (a2 : Int) (a3 : Int) : Option (Bool) := (top CT).stage 166 [] 166 [0, 1, 0, 1] { env := [(6, (.sl (.int .u8) a1 false)), (7, (.int .i64 a2)), (8, (.int .i64 a3))], heap := [], salt := 0 }
noncomputable abbrev dec_odd_2 (a1 : List Int) (a2 : Int) (a3 : Int) (a4 : Bool) : Option (Bool) := (top CT).stage 166 [] 166 [1, 1, 0, 0, 1, 1, 0, 0, 1, 0, 1] { env := [(6, (.sl (.int .u8) a1 false)), (7, (.int .i64 a2)), (8, (.int .i64 a3)), (17, (.bool a4))], heap := [], salt := 0 }
noncomputable abbrev nat_Add (x0 : List UInt8) (x1 : List UInt8) : Option (List UInt8) := (top CT).callF 167 (x0, x1)
noncomputable abbrev divide_Gcd (x0 : List UInt8) (x1 : List UInt8) : Option (List UInt8) := (top CT).callF 168 (x0, x1)
noncomputable abbrev abacistref02_Gcd (x0 : List UInt8) (x1 : List UInt8) : Option (List UInt8) := (top CT).callF 169 (x0, x1)
noncomputable abbrev abacistref01_Add (x0 : List UInt8) (x1 : List UInt8) : Option (List UInt8) := (top CT).callF 170 (x0, x1)
noncomputable abbrev abacistref01_Of (x0 : Int) : Option (List UInt8) := (top CT).callF 171 (x0)
noncomputable abbrev abacistref01_Bits (x0 : List UInt8) : Option (Int) := (top CT).callF 172 (x0)
noncomputable abbrev abacistref04_Of (x0 : Int) : Option (Bool × List UInt8) := (top CT).callF 173 (x0)
noncomputable abbrev internal_stringslite_HasPrefix (x0 : List UInt8) (x1 : List UInt8) : Option (Bool) := (top CT).callF 174 (x0, x1)
noncomputable abbrev rat_tidy (x0 : List UInt8) : Option (Bool) := (top CT).callF 175 (x0)
noncomputable abbrev whole_Of (x0 : Int) : Option (Bool × List UInt8) := (top CT).callF 176 (x0)
noncomputable abbrev cmp_isNaN_int (x0 : Int) : Option (Bool) := (top CT).callF 177 (x0)
noncomputable abbrev whole_Cmp (x0 : Bool × List UInt8) (x1 : Bool × List UInt8) : Option (Int) := (top CT).callF 178 (x0, x1)
noncomputable abbrev whole_Cmp_1 (a1 : Int) (a2 : Bool) (a3 : Bool × List UInt8) (a4 : Bool × List UInt8) : Option (Int) := (top CT).stage 178 [] 178 [1, 0, 0, 1, 1, 1] { env := [(2, (.ptr 32 0)), (3, (.ptr 48 0)), (5, (.int .i64 a1)), (15, (.bool a2))], heap := [(32, .box [(.bool a3.1), (.str a3.2)]), (48, .box [(.bool a4.1), (.str a4.2)])], salt := 0 }
noncomputable abbrev rat_crossed (x0 : Bool × List UInt8 × List UInt8) (x1 : Bool × List UInt8 × List UInt8) : Option ((Bool × List UInt8) × Bool × List UInt8) := (top CT).callF 179 (x0, x1)
noncomputable abbrev cmp_isNaN_string (x0 : List UInt8) : Option (Bool) := (top CT).callF 180 (x0)
noncomputable abbrev cmp_isNaN_int64 (x0 : Int) : Option (Bool) := (top CT).callF 181 (x0)
noncomputable abbrev abacistref01_Cmp (x0 : List UInt8) (x1 : List UInt8) : Option (Int) := (top CT).callF 182 (x0, x1)
noncomputable abbrev whole_well (x0 : Bool × List UInt8) : Option (Bool × List UInt8) := (top CT).callF 212 (x0)
noncomputable abbrev rat_top (x0 : Bool × List UInt8 × List UInt8) : Option (Bool × List UInt8) := (top CT).callF 213 (x0)
noncomputable abbrev whole_Mul (x0 : Bool × List UInt8) (x1 : Bool × List UInt8) : Option (Bool × List UInt8) := (top CT).callF 214 (x0, x1)
noncomputable abbrev rat_low (x0 : Bool × List UInt8 × List UInt8) : Option (Bool × List UInt8) := (top CT).callF 215 (x0)
end Go.Proofs.YtenapomineinbaaGreatDoor.K

/- The tables are the program's own. -/
set_option linter.unusedVariables false
set_option maxRecDepth 100000
namespace Go.Proofs.YtenapomineinbaaGreatDoor.K
open Go
theorem look_all {α : Type} {Q : Nat → α → Prop} : ∀ {l : List (Nat × α)}, (∀ p ∈ l, Q p.1 p.2) → ∀ t v, look l t = some v → Q t v
  | [], _, t, v, h => by cases h
  | (u, x) :: l, hl, t, v, h => by
    simp only [look] at h
    split at h
    · rename_i hb
      have := Nat.eq_of_beq_eq_true hb
      subst this
      cases h
      exact hl _ (List.mem_cons_self ..)
    · exact look_all (fun p hp => hl p (List.mem_cons_of_mem _ hp)) t v h
theorem all_nil {α : Type} {Q : Nat → α → Prop} : ∀ p ∈ ([] : List (Nat × α)), Q p.1 p.2 := fun p h => by cases h
theorem all_cons {α : Type} {Q : Nat → α → Prop} {u : Nat} {x : α} {l : List (Nat × α)} (h : Q u x) (hl : ∀ p ∈ l, Q p.1 p.2) : ∀ p ∈ (u, x) :: l, Q p.1 p.2 := fun p hp => by
  rcases List.mem_cons.1 hp with rfl | hp
  · exact h
  · exact hl p hp
theorem tiok2 : TIok Tryz.prog 2 ti2 := ⟨by kernel_rfl, by kernel_rfl, by kernel_rfl, by kernel_rfl, by kernel_rfl, by kernel_rfl, by kernel_rfl, by kernel_rfl, ⟨by kernel_rfl, by kernel_rfl, by kernel_rfl⟩, fun h => by cases h⟩
theorem tiok3 : TIok Tryz.prog 3 ti3 := ⟨by kernel_rfl, by kernel_rfl, by kernel_rfl, by kernel_rfl, by kernel_rfl, by kernel_rfl, by kernel_rfl, by kernel_rfl, ⟨by kernel_rfl, by kernel_rfl, by kernel_rfl⟩, fun h => by cases h⟩
theorem tiok4 : TIok Tryz.prog 4 ti4 := ⟨by kernel_rfl, by kernel_rfl, by kernel_rfl, by kernel_rfl, by kernel_rfl, by kernel_rfl, by kernel_rfl, by kernel_rfl, ⟨by kernel_rfl, by kernel_rfl, by kernel_rfl⟩, fun h => by cases h⟩
theorem tiok5 : TIok Tryz.prog 5 ti5 := ⟨by kernel_rfl, by kernel_rfl, by kernel_rfl, by kernel_rfl, by kernel_rfl, by kernel_rfl, by kernel_rfl, by kernel_rfl, ⟨by kernel_rfl, by kernel_rfl, by kernel_rfl⟩, fun h => by cases h⟩
theorem tiok9 : TIok Tryz.prog 9 ti9 := ⟨by kernel_rfl, by kernel_rfl, by kernel_rfl, by kernel_rfl, by kernel_rfl, by kernel_rfl, by kernel_rfl, by kernel_rfl, ⟨by kernel_rfl, by kernel_rfl, by kernel_rfl⟩, fun h => by cases h⟩
theorem tiok23 : TIok Tryz.prog 23 ti23 := ⟨by kernel_rfl, by kernel_rfl, by kernel_rfl, by kernel_rfl, by kernel_rfl, by kernel_rfl, by kernel_rfl, by kernel_rfl, ⟨by kernel_rfl, by kernel_rfl, by kernel_rfl⟩, fun _ => eq_fits (by kernel_rfl) (by kernel_rfl)⟩
theorem tiok37 : TIok Tryz.prog 37 ti37 := ⟨by kernel_rfl, by kernel_rfl, by kernel_rfl, by kernel_rfl, by kernel_rfl, by kernel_rfl, by kernel_rfl, by kernel_rfl, ⟨by kernel_rfl, by kernel_rfl, by kernel_rfl⟩, fun _ => eq_fits (by kernel_rfl) (by kernel_rfl)⟩
theorem tiok57 : TIok Tryz.prog 57 ti57 := ⟨by kernel_rfl, by kernel_rfl, by kernel_rfl, by kernel_rfl, by kernel_rfl, by kernel_rfl, by kernel_rfl, by kernel_rfl, ⟨by kernel_rfl, by kernel_rfl, by kernel_rfl⟩, fun h => by cases h⟩
theorem tiok88 : TIok Tryz.prog 88 ti88 := ⟨by kernel_rfl, by kernel_rfl, by kernel_rfl, by kernel_rfl, by kernel_rfl, by kernel_rfl, by kernel_rfl, by kernel_rfl, ⟨by kernel_rfl, by kernel_rfl, by kernel_rfl⟩, fun h => by cases h⟩
theorem tiok91 : TIok Tryz.prog 91 ti91 := ⟨by kernel_rfl, by kernel_rfl, by kernel_rfl, by kernel_rfl, by kernel_rfl, by kernel_rfl, by kernel_rfl, by kernel_rfl, ⟨by kernel_rfl, by kernel_rfl, by kernel_rfl⟩, fun h => by cases h⟩
theorem tiok107 : TIok Tryz.prog 107 ti107 := ⟨by kernel_rfl, by kernel_rfl, by kernel_rfl, by kernel_rfl, by kernel_rfl, by kernel_rfl, by kernel_rfl, by kernel_rfl, trivial, fun h => by cases h⟩
theorem tiok109 : TIok Tryz.prog 109 ti109 := ⟨by kernel_rfl, by kernel_rfl, by kernel_rfl, by kernel_rfl, by kernel_rfl, by kernel_rfl, by kernel_rfl, by kernel_rfl, ⟨by kernel_rfl, by kernel_rfl, by kernel_rfl⟩, fun h => by cases h⟩
theorem tiok113 : TIok Tryz.prog 113 ti113 := ⟨by kernel_rfl, by kernel_rfl, by kernel_rfl, by kernel_rfl, by kernel_rfl, by kernel_rfl, by kernel_rfl, by kernel_rfl, ⟨by kernel_rfl, by kernel_rfl, by kernel_rfl⟩, fun h => by cases h⟩
theorem tiok131 : TIok Tryz.prog 131 ti131 := ⟨by kernel_rfl, by kernel_rfl, by kernel_rfl, by kernel_rfl, by kernel_rfl, by kernel_rfl, by kernel_rfl, by kernel_rfl, ⟨by kernel_rfl, by kernel_rfl, by kernel_rfl⟩, fun h => by cases h⟩
theorem tiok161 : TIok Tryz.prog 161 ti161 := ⟨by kernel_rfl, by kernel_rfl, by kernel_rfl, by kernel_rfl, by kernel_rfl, by kernel_rfl, by kernel_rfl, by kernel_rfl, ⟨by kernel_rfl, by kernel_rfl, by kernel_rfl⟩, fun h => by cases h⟩
theorem tis_ok : CtxTI Tryz.prog CT := look_all (l := tis) (all_cons tiok2 (all_cons tiok3 (all_cons tiok4 (all_cons tiok5 (all_cons tiok9 (all_cons tiok23 (all_cons tiok37 (all_cons tiok57 (all_cons tiok88 (all_cons tiok91 (all_cons tiok107 (all_cons tiok109 (all_cons tiok113 (all_cons tiok131 (all_cons tiok161 all_nil)))))))))))))))
def FnOk (f : Nat) (fn : Func) : Prop := Tryz.prog.funcs[f]? = some fn ∧ fn.body.isSome = true ∧ (fn.name == "runtime.NumGoroutine") = false
def ParOk (i : Nat) (fn : Func) : Prop := ((look ptsL i).getD []).length ≤ fn.ntmps
theorem fnok102 : FnOk 102 Tryz.f102 := ⟨Tryz.func102, by kernel_rfl, by kernel_rfl⟩
theorem parok102 : ParOk 102 Tryz.f102 := Nat.le_of_ble_eq_true (by kernel_rfl)
theorem fnok106 : FnOk 106 Tryz.f106 := ⟨Tryz.func106, by kernel_rfl, by kernel_rfl⟩
theorem parok106 : ParOk 106 Tryz.f106 := Nat.le_of_ble_eq_true (by kernel_rfl)
theorem fnok3 : FnOk 3 Tryz.f3 := ⟨Tryz.func3, by kernel_rfl, by kernel_rfl⟩
theorem parok3 : ParOk 3 Tryz.f3 := Nat.le_of_ble_eq_true (by kernel_rfl)
theorem fnok4 : FnOk 4 Tryz.f4 := ⟨Tryz.func4, by kernel_rfl, by kernel_rfl⟩
theorem parok4 : ParOk 4 Tryz.f4 := Nat.le_of_ble_eq_true (by kernel_rfl)
theorem fnok5 : FnOk 5 Tryz.f5 := ⟨Tryz.func5, by kernel_rfl, by kernel_rfl⟩
theorem parok5 : ParOk 5 Tryz.f5 := Nat.le_of_ble_eq_true (by kernel_rfl)
theorem fnok6 : FnOk 6 Tryz.f6 := ⟨Tryz.func6, by kernel_rfl, by kernel_rfl⟩
theorem parok6 : ParOk 6 Tryz.f6 := Nat.le_of_ble_eq_true (by kernel_rfl)
theorem fnok8 : FnOk 8 Tryz.f8 := ⟨Tryz.func8, by kernel_rfl, by kernel_rfl⟩
theorem parok8 : ParOk 8 Tryz.f8 := Nat.le_of_ble_eq_true (by kernel_rfl)
theorem fnok9 : FnOk 9 Tryz.f9 := ⟨Tryz.func9, by kernel_rfl, by kernel_rfl⟩
theorem parok9 : ParOk 9 Tryz.f9 := Nat.le_of_ble_eq_true (by kernel_rfl)
theorem fnok11 : FnOk 11 Tryz.f11 := ⟨Tryz.func11, by kernel_rfl, by kernel_rfl⟩
theorem parok11 : ParOk 11 Tryz.f11 := Nat.le_of_ble_eq_true (by kernel_rfl)
theorem fnok12 : FnOk 12 Tryz.f12 := ⟨Tryz.func12, by kernel_rfl, by kernel_rfl⟩
theorem parok12 : ParOk 12 Tryz.f12 := Nat.le_of_ble_eq_true (by kernel_rfl)
theorem fnok13 : FnOk 13 Tryz.f13 := ⟨Tryz.func13, by kernel_rfl, by kernel_rfl⟩
theorem parok13 : ParOk 13 Tryz.f13 := Nat.le_of_ble_eq_true (by kernel_rfl)
theorem fnok14 : FnOk 14 Tryz.f14 := ⟨Tryz.func14, by kernel_rfl, by kernel_rfl⟩
theorem parok14 : ParOk 14 Tryz.f14 := Nat.le_of_ble_eq_true (by kernel_rfl)
theorem fnok15 : FnOk 15 Tryz.f15 := ⟨Tryz.func15, by kernel_rfl, by kernel_rfl⟩
theorem parok15 : ParOk 15 Tryz.f15 := Nat.le_of_ble_eq_true (by kernel_rfl)
theorem fnok16 : FnOk 16 Tryz.f16 := ⟨Tryz.func16, by kernel_rfl, by kernel_rfl⟩
theorem parok16 : ParOk 16 Tryz.f16 := Nat.le_of_ble_eq_true (by kernel_rfl)
theorem fnok17 : FnOk 17 Tryz.f17 := ⟨Tryz.func17, by kernel_rfl, by kernel_rfl⟩
theorem parok17 : ParOk 17 Tryz.f17 := Nat.le_of_ble_eq_true (by kernel_rfl)
theorem fnok18 : FnOk 18 Tryz.f18 := ⟨Tryz.func18, by kernel_rfl, by kernel_rfl⟩
theorem parok18 : ParOk 18 Tryz.f18 := Nat.le_of_ble_eq_true (by kernel_rfl)
theorem fnok19 : FnOk 19 Tryz.f19 := ⟨Tryz.func19, by kernel_rfl, by kernel_rfl⟩
theorem parok19 : ParOk 19 Tryz.f19 := Nat.le_of_ble_eq_true (by kernel_rfl)
theorem fnok20 : FnOk 20 Tryz.f20 := ⟨Tryz.func20, by kernel_rfl, by kernel_rfl⟩
theorem parok20 : ParOk 20 Tryz.f20 := Nat.le_of_ble_eq_true (by kernel_rfl)
theorem fnok21 : FnOk 21 Tryz.f21 := ⟨Tryz.func21, by kernel_rfl, by kernel_rfl⟩
theorem parok21 : ParOk 21 Tryz.f21 := Nat.le_of_ble_eq_true (by kernel_rfl)
theorem fnok22 : FnOk 22 Tryz.f22 := ⟨Tryz.func22, by kernel_rfl, by kernel_rfl⟩
theorem parok22 : ParOk 22 Tryz.f22 := Nat.le_of_ble_eq_true (by kernel_rfl)
theorem fnok23 : FnOk 23 Tryz.f23 := ⟨Tryz.func23, by kernel_rfl, by kernel_rfl⟩
theorem parok23 : ParOk 23 Tryz.f23 := Nat.le_of_ble_eq_true (by kernel_rfl)
theorem fnok24 : FnOk 24 Tryz.f24 := ⟨Tryz.func24, by kernel_rfl, by kernel_rfl⟩
theorem parok24 : ParOk 24 Tryz.f24 := Nat.le_of_ble_eq_true (by kernel_rfl)
theorem fnok25 : FnOk 25 Tryz.f25 := ⟨Tryz.func25, by kernel_rfl, by kernel_rfl⟩
theorem parok25 : ParOk 25 Tryz.f25 := Nat.le_of_ble_eq_true (by kernel_rfl)
theorem fnok26 : FnOk 26 Tryz.f26 := ⟨Tryz.func26, by kernel_rfl, by kernel_rfl⟩
theorem parok26 : ParOk 26 Tryz.f26 := Nat.le_of_ble_eq_true (by kernel_rfl)
theorem fnok27 : FnOk 27 Tryz.f27 := ⟨Tryz.func27, by kernel_rfl, by kernel_rfl⟩
theorem parok27 : ParOk 27 Tryz.f27 := Nat.le_of_ble_eq_true (by kernel_rfl)
theorem fnok28 : FnOk 28 Tryz.f28 := ⟨Tryz.func28, by kernel_rfl, by kernel_rfl⟩
theorem parok28 : ParOk 28 Tryz.f28 := Nat.le_of_ble_eq_true (by kernel_rfl)
theorem fnok29 : FnOk 29 Tryz.f29 := ⟨Tryz.func29, by kernel_rfl, by kernel_rfl⟩
theorem parok29 : ParOk 29 Tryz.f29 := Nat.le_of_ble_eq_true (by kernel_rfl)
theorem fnok30 : FnOk 30 Tryz.f30 := ⟨Tryz.func30, by kernel_rfl, by kernel_rfl⟩
theorem parok30 : ParOk 30 Tryz.f30 := Nat.le_of_ble_eq_true (by kernel_rfl)
theorem fnok31 : FnOk 31 Tryz.f31 := ⟨Tryz.func31, by kernel_rfl, by kernel_rfl⟩
theorem parok31 : ParOk 31 Tryz.f31 := Nat.le_of_ble_eq_true (by kernel_rfl)
theorem fnok32 : FnOk 32 Tryz.f32 := ⟨Tryz.func32, by kernel_rfl, by kernel_rfl⟩
theorem parok32 : ParOk 32 Tryz.f32 := Nat.le_of_ble_eq_true (by kernel_rfl)
theorem fnok33 : FnOk 33 Tryz.f33 := ⟨Tryz.func33, by kernel_rfl, by kernel_rfl⟩
theorem parok33 : ParOk 33 Tryz.f33 := Nat.le_of_ble_eq_true (by kernel_rfl)
theorem fnok34 : FnOk 34 Tryz.f34 := ⟨Tryz.func34, by kernel_rfl, by kernel_rfl⟩
theorem parok34 : ParOk 34 Tryz.f34 := Nat.le_of_ble_eq_true (by kernel_rfl)
theorem fnok35 : FnOk 35 Tryz.f35 := ⟨Tryz.func35, by kernel_rfl, by kernel_rfl⟩
theorem parok35 : ParOk 35 Tryz.f35 := Nat.le_of_ble_eq_true (by kernel_rfl)
theorem fnok36 : FnOk 36 Tryz.f36 := ⟨Tryz.func36, by kernel_rfl, by kernel_rfl⟩
theorem parok36 : ParOk 36 Tryz.f36 := Nat.le_of_ble_eq_true (by kernel_rfl)
theorem fnok37 : FnOk 37 Tryz.f37 := ⟨Tryz.func37, by kernel_rfl, by kernel_rfl⟩
theorem parok37 : ParOk 37 Tryz.f37 := Nat.le_of_ble_eq_true (by kernel_rfl)
theorem fnok38 : FnOk 38 Tryz.f38 := ⟨Tryz.func38, by kernel_rfl, by kernel_rfl⟩
theorem parok38 : ParOk 38 Tryz.f38 := Nat.le_of_ble_eq_true (by kernel_rfl)
theorem fnok39 : FnOk 39 Tryz.f39 := ⟨Tryz.func39, by kernel_rfl, by kernel_rfl⟩
theorem parok39 : ParOk 39 Tryz.f39 := Nat.le_of_ble_eq_true (by kernel_rfl)
theorem fnok40 : FnOk 40 Tryz.f40 := ⟨Tryz.func40, by kernel_rfl, by kernel_rfl⟩
theorem parok40 : ParOk 40 Tryz.f40 := Nat.le_of_ble_eq_true (by kernel_rfl)
theorem fnok41 : FnOk 41 Tryz.f41 := ⟨Tryz.func41, by kernel_rfl, by kernel_rfl⟩
theorem parok41 : ParOk 41 Tryz.f41 := Nat.le_of_ble_eq_true (by kernel_rfl)
theorem fnok42 : FnOk 42 Tryz.f42 := ⟨Tryz.func42, by kernel_rfl, by kernel_rfl⟩
theorem parok42 : ParOk 42 Tryz.f42 := Nat.le_of_ble_eq_true (by kernel_rfl)
theorem fnok43 : FnOk 43 Tryz.f43 := ⟨Tryz.func43, by kernel_rfl, by kernel_rfl⟩
theorem parok43 : ParOk 43 Tryz.f43 := Nat.le_of_ble_eq_true (by kernel_rfl)
theorem fnok44 : FnOk 44 Tryz.f44 := ⟨Tryz.func44, by kernel_rfl, by kernel_rfl⟩
theorem parok44 : ParOk 44 Tryz.f44 := Nat.le_of_ble_eq_true (by kernel_rfl)
theorem fnok45 : FnOk 45 Tryz.f45 := ⟨Tryz.func45, by kernel_rfl, by kernel_rfl⟩
theorem parok45 : ParOk 45 Tryz.f45 := Nat.le_of_ble_eq_true (by kernel_rfl)
theorem fnok46 : FnOk 46 Tryz.f46 := ⟨Tryz.func46, by kernel_rfl, by kernel_rfl⟩
theorem parok46 : ParOk 46 Tryz.f46 := Nat.le_of_ble_eq_true (by kernel_rfl)
theorem fnok47 : FnOk 47 Tryz.f47 := ⟨Tryz.func47, by kernel_rfl, by kernel_rfl⟩
theorem parok47 : ParOk 47 Tryz.f47 := Nat.le_of_ble_eq_true (by kernel_rfl)
theorem fnok49 : FnOk 49 Tryz.f49 := ⟨Tryz.func49, by kernel_rfl, by kernel_rfl⟩
theorem parok49 : ParOk 49 Tryz.f49 := Nat.le_of_ble_eq_true (by kernel_rfl)
theorem fnok51 : FnOk 51 Tryz.f51 := ⟨Tryz.func51, by kernel_rfl, by kernel_rfl⟩
theorem parok51 : ParOk 51 Tryz.f51 := Nat.le_of_ble_eq_true (by kernel_rfl)
theorem fnok52 : FnOk 52 Tryz.f52 := ⟨Tryz.func52, by kernel_rfl, by kernel_rfl⟩
theorem parok52 : ParOk 52 Tryz.f52 := Nat.le_of_ble_eq_true (by kernel_rfl)
theorem fnok53 : FnOk 53 Tryz.f53 := ⟨Tryz.func53, by kernel_rfl, by kernel_rfl⟩
theorem parok53 : ParOk 53 Tryz.f53 := Nat.le_of_ble_eq_true (by kernel_rfl)
theorem fnok54 : FnOk 54 Tryz.f54 := ⟨Tryz.func54, by kernel_rfl, by kernel_rfl⟩
theorem parok54 : ParOk 54 Tryz.f54 := Nat.le_of_ble_eq_true (by kernel_rfl)
theorem fnok55 : FnOk 55 Tryz.f55 := ⟨Tryz.func55, by kernel_rfl, by kernel_rfl⟩
theorem parok55 : ParOk 55 Tryz.f55 := Nat.le_of_ble_eq_true (by kernel_rfl)
theorem fnok56 : FnOk 56 Tryz.f56 := ⟨Tryz.func56, by kernel_rfl, by kernel_rfl⟩
theorem parok56 : ParOk 56 Tryz.f56 := Nat.le_of_ble_eq_true (by kernel_rfl)
theorem fnok57 : FnOk 57 Tryz.f57 := ⟨Tryz.func57, by kernel_rfl, by kernel_rfl⟩
theorem parok57 : ParOk 57 Tryz.f57 := Nat.le_of_ble_eq_true (by kernel_rfl)
theorem fnok58 : FnOk 58 Tryz.f58 := ⟨Tryz.func58, by kernel_rfl, by kernel_rfl⟩
theorem parok58 : ParOk 58 Tryz.f58 := Nat.le_of_ble_eq_true (by kernel_rfl)
theorem fnok66 : FnOk 66 Tryz.f66 := ⟨Tryz.func66, by kernel_rfl, by kernel_rfl⟩
theorem parok66 : ParOk 66 Tryz.f66 := Nat.le_of_ble_eq_true (by kernel_rfl)
theorem fnok67 : FnOk 67 Tryz.f67 := ⟨Tryz.func67, by kernel_rfl, by kernel_rfl⟩
theorem parok67 : ParOk 67 Tryz.f67 := Nat.le_of_ble_eq_true (by kernel_rfl)
theorem fnok68 : FnOk 68 Tryz.f68 := ⟨Tryz.func68, by kernel_rfl, by kernel_rfl⟩
theorem parok68 : ParOk 68 Tryz.f68 := Nat.le_of_ble_eq_true (by kernel_rfl)
theorem fnok69 : FnOk 69 Tryz.f69 := ⟨Tryz.func69, by kernel_rfl, by kernel_rfl⟩
theorem parok69 : ParOk 69 Tryz.f69 := Nat.le_of_ble_eq_true (by kernel_rfl)
theorem fnok70 : FnOk 70 Tryz.f70 := ⟨Tryz.func70, by kernel_rfl, by kernel_rfl⟩
theorem parok70 : ParOk 70 Tryz.f70 := Nat.le_of_ble_eq_true (by kernel_rfl)
theorem fnok71 : FnOk 71 Tryz.f71 := ⟨Tryz.func71, by kernel_rfl, by kernel_rfl⟩
theorem parok71 : ParOk 71 Tryz.f71 := Nat.le_of_ble_eq_true (by kernel_rfl)
theorem fnok72 : FnOk 72 Tryz.f72 := ⟨Tryz.func72, by kernel_rfl, by kernel_rfl⟩
theorem parok72 : ParOk 72 Tryz.f72 := Nat.le_of_ble_eq_true (by kernel_rfl)
theorem fnok73 : FnOk 73 Tryz.f73 := ⟨Tryz.func73, by kernel_rfl, by kernel_rfl⟩
theorem parok73 : ParOk 73 Tryz.f73 := Nat.le_of_ble_eq_true (by kernel_rfl)
theorem fnok74 : FnOk 74 Tryz.f74 := ⟨Tryz.func74, by kernel_rfl, by kernel_rfl⟩
theorem parok74 : ParOk 74 Tryz.f74 := Nat.le_of_ble_eq_true (by kernel_rfl)
theorem fnok75 : FnOk 75 Tryz.f75 := ⟨Tryz.func75, by kernel_rfl, by kernel_rfl⟩
theorem parok75 : ParOk 75 Tryz.f75 := Nat.le_of_ble_eq_true (by kernel_rfl)
theorem fnok76 : FnOk 76 Tryz.f76 := ⟨Tryz.func76, by kernel_rfl, by kernel_rfl⟩
theorem parok76 : ParOk 76 Tryz.f76 := Nat.le_of_ble_eq_true (by kernel_rfl)
theorem fnok77 : FnOk 77 Tryz.f77 := ⟨Tryz.func77, by kernel_rfl, by kernel_rfl⟩
theorem parok77 : ParOk 77 Tryz.f77 := Nat.le_of_ble_eq_true (by kernel_rfl)
theorem fnok78 : FnOk 78 Tryz.f78 := ⟨Tryz.func78, by kernel_rfl, by kernel_rfl⟩
theorem parok78 : ParOk 78 Tryz.f78 := Nat.le_of_ble_eq_true (by kernel_rfl)
theorem fnok79 : FnOk 79 Tryz.f79 := ⟨Tryz.func79, by kernel_rfl, by kernel_rfl⟩
theorem parok79 : ParOk 79 Tryz.f79 := Nat.le_of_ble_eq_true (by kernel_rfl)
theorem fnok80 : FnOk 80 Tryz.f80 := ⟨Tryz.func80, by kernel_rfl, by kernel_rfl⟩
theorem parok80 : ParOk 80 Tryz.f80 := Nat.le_of_ble_eq_true (by kernel_rfl)
theorem fnok81 : FnOk 81 Tryz.f81 := ⟨Tryz.func81, by kernel_rfl, by kernel_rfl⟩
theorem parok81 : ParOk 81 Tryz.f81 := Nat.le_of_ble_eq_true (by kernel_rfl)
theorem fnok82 : FnOk 82 Tryz.f82 := ⟨Tryz.func82, by kernel_rfl, by kernel_rfl⟩
theorem parok82 : ParOk 82 Tryz.f82 := Nat.le_of_ble_eq_true (by kernel_rfl)
theorem fnok83 : FnOk 83 Tryz.f83 := ⟨Tryz.func83, by kernel_rfl, by kernel_rfl⟩
theorem parok83 : ParOk 83 Tryz.f83 := Nat.le_of_ble_eq_true (by kernel_rfl)
theorem fnok84 : FnOk 84 Tryz.f84 := ⟨Tryz.func84, by kernel_rfl, by kernel_rfl⟩
theorem parok84 : ParOk 84 Tryz.f84 := Nat.le_of_ble_eq_true (by kernel_rfl)
theorem fnok85 : FnOk 85 Tryz.f85 := ⟨Tryz.func85, by kernel_rfl, by kernel_rfl⟩
theorem parok85 : ParOk 85 Tryz.f85 := Nat.le_of_ble_eq_true (by kernel_rfl)
theorem fnok86 : FnOk 86 Tryz.f86 := ⟨Tryz.func86, by kernel_rfl, by kernel_rfl⟩
theorem parok86 : ParOk 86 Tryz.f86 := Nat.le_of_ble_eq_true (by kernel_rfl)
theorem fnok87 : FnOk 87 Tryz.f87 := ⟨Tryz.func87, by kernel_rfl, by kernel_rfl⟩
theorem parok87 : ParOk 87 Tryz.f87 := Nat.le_of_ble_eq_true (by kernel_rfl)
theorem fnok88 : FnOk 88 Tryz.f88 := ⟨Tryz.func88, by kernel_rfl, by kernel_rfl⟩
theorem parok88 : ParOk 88 Tryz.f88 := Nat.le_of_ble_eq_true (by kernel_rfl)
theorem fnok89 : FnOk 89 Tryz.f89 := ⟨Tryz.func89, by kernel_rfl, by kernel_rfl⟩
theorem parok89 : ParOk 89 Tryz.f89 := Nat.le_of_ble_eq_true (by kernel_rfl)
theorem fnok90 : FnOk 90 Tryz.f90 := ⟨Tryz.func90, by kernel_rfl, by kernel_rfl⟩
theorem parok90 : ParOk 90 Tryz.f90 := Nat.le_of_ble_eq_true (by kernel_rfl)
theorem fnok91 : FnOk 91 Tryz.f91 := ⟨Tryz.func91, by kernel_rfl, by kernel_rfl⟩
theorem parok91 : ParOk 91 Tryz.f91 := Nat.le_of_ble_eq_true (by kernel_rfl)
theorem fnok92 : FnOk 92 Tryz.f92 := ⟨Tryz.func92, by kernel_rfl, by kernel_rfl⟩
theorem parok92 : ParOk 92 Tryz.f92 := Nat.le_of_ble_eq_true (by kernel_rfl)
theorem fnok93 : FnOk 93 Tryz.f93 := ⟨Tryz.func93, by kernel_rfl, by kernel_rfl⟩
theorem parok93 : ParOk 93 Tryz.f93 := Nat.le_of_ble_eq_true (by kernel_rfl)
theorem fnok94 : FnOk 94 Tryz.f94 := ⟨Tryz.func94, by kernel_rfl, by kernel_rfl⟩
theorem parok94 : ParOk 94 Tryz.f94 := Nat.le_of_ble_eq_true (by kernel_rfl)
theorem fnok95 : FnOk 95 Tryz.f95 := ⟨Tryz.func95, by kernel_rfl, by kernel_rfl⟩
theorem parok95 : ParOk 95 Tryz.f95 := Nat.le_of_ble_eq_true (by kernel_rfl)
theorem fnok96 : FnOk 96 Tryz.f96 := ⟨Tryz.func96, by kernel_rfl, by kernel_rfl⟩
theorem parok96 : ParOk 96 Tryz.f96 := Nat.le_of_ble_eq_true (by kernel_rfl)
theorem fnok97 : FnOk 97 Tryz.f97 := ⟨Tryz.func97, by kernel_rfl, by kernel_rfl⟩
theorem parok97 : ParOk 97 Tryz.f97 := Nat.le_of_ble_eq_true (by kernel_rfl)
theorem fnok98 : FnOk 98 Tryz.f98 := ⟨Tryz.func98, by kernel_rfl, by kernel_rfl⟩
theorem parok98 : ParOk 98 Tryz.f98 := Nat.le_of_ble_eq_true (by kernel_rfl)
theorem fnok99 : FnOk 99 Tryz.f99 := ⟨Tryz.func99, by kernel_rfl, by kernel_rfl⟩
theorem parok99 : ParOk 99 Tryz.f99 := Nat.le_of_ble_eq_true (by kernel_rfl)
theorem fnok100 : FnOk 100 Tryz.f100 := ⟨Tryz.func100, by kernel_rfl, by kernel_rfl⟩
theorem parok100 : ParOk 100 Tryz.f100 := Nat.le_of_ble_eq_true (by kernel_rfl)
theorem fnok101 : FnOk 101 Tryz.f101 := ⟨Tryz.func101, by kernel_rfl, by kernel_rfl⟩
theorem parok101 : ParOk 101 Tryz.f101 := Nat.le_of_ble_eq_true (by kernel_rfl)
theorem fnok103 : FnOk 103 Tryz.f103 := ⟨Tryz.func103, by kernel_rfl, by kernel_rfl⟩
theorem parok103 : ParOk 103 Tryz.f103 := Nat.le_of_ble_eq_true (by kernel_rfl)
theorem fnok104 : FnOk 104 Tryz.f104 := ⟨Tryz.func104, by kernel_rfl, by kernel_rfl⟩
theorem parok104 : ParOk 104 Tryz.f104 := Nat.le_of_ble_eq_true (by kernel_rfl)
theorem fnok105 : FnOk 105 Tryz.f105 := ⟨Tryz.func105, by kernel_rfl, by kernel_rfl⟩
theorem parok105 : ParOk 105 Tryz.f105 := Nat.le_of_ble_eq_true (by kernel_rfl)
theorem fnok107 : FnOk 107 Tryz.f107 := ⟨Tryz.func107, by kernel_rfl, by kernel_rfl⟩
theorem parok107 : ParOk 107 Tryz.f107 := Nat.le_of_ble_eq_true (by kernel_rfl)
theorem fnok108 : FnOk 108 Tryz.f108 := ⟨Tryz.func108, by kernel_rfl, by kernel_rfl⟩
theorem parok108 : ParOk 108 Tryz.f108 := Nat.le_of_ble_eq_true (by kernel_rfl)
theorem fnok109 : FnOk 109 Tryz.f109 := ⟨Tryz.func109, by kernel_rfl, by kernel_rfl⟩
theorem parok109 : ParOk 109 Tryz.f109 := Nat.le_of_ble_eq_true (by kernel_rfl)
theorem fnok110 : FnOk 110 Tryz.f110 := ⟨Tryz.func110, by kernel_rfl, by kernel_rfl⟩
theorem parok110 : ParOk 110 Tryz.f110 := Nat.le_of_ble_eq_true (by kernel_rfl)
theorem fnok111 : FnOk 111 Tryz.f111 := ⟨Tryz.func111, by kernel_rfl, by kernel_rfl⟩
theorem parok111 : ParOk 111 Tryz.f111 := Nat.le_of_ble_eq_true (by kernel_rfl)
theorem fnok112 : FnOk 112 Tryz.f112 := ⟨Tryz.func112, by kernel_rfl, by kernel_rfl⟩
theorem parok112 : ParOk 112 Tryz.f112 := Nat.le_of_ble_eq_true (by kernel_rfl)
theorem fnok113 : FnOk 113 Tryz.f113 := ⟨Tryz.func113, by kernel_rfl, by kernel_rfl⟩
theorem parok113 : ParOk 113 Tryz.f113 := Nat.le_of_ble_eq_true (by kernel_rfl)
theorem fnok114 : FnOk 114 Tryz.f114 := ⟨Tryz.func114, by kernel_rfl, by kernel_rfl⟩
theorem parok114 : ParOk 114 Tryz.f114 := Nat.le_of_ble_eq_true (by kernel_rfl)
theorem fnok115 : FnOk 115 Tryz.f115 := ⟨Tryz.func115, by kernel_rfl, by kernel_rfl⟩
theorem parok115 : ParOk 115 Tryz.f115 := Nat.le_of_ble_eq_true (by kernel_rfl)
theorem fnok120 : FnOk 120 Tryz.f120 := ⟨Tryz.func120, by kernel_rfl, by kernel_rfl⟩
theorem parok120 : ParOk 120 Tryz.f120 := Nat.le_of_ble_eq_true (by kernel_rfl)
theorem fnok121 : FnOk 121 Tryz.f121 := ⟨Tryz.func121, by kernel_rfl, by kernel_rfl⟩
theorem parok121 : ParOk 121 Tryz.f121 := Nat.le_of_ble_eq_true (by kernel_rfl)
theorem fnok136 : FnOk 136 Tryz.f136 := ⟨Tryz.func136, by kernel_rfl, by kernel_rfl⟩
theorem parok136 : ParOk 136 Tryz.f136 := Nat.le_of_ble_eq_true (by kernel_rfl)
theorem fnok137 : FnOk 137 Tryz.f137 := ⟨Tryz.func137, by kernel_rfl, by kernel_rfl⟩
theorem parok137 : ParOk 137 Tryz.f137 := Nat.le_of_ble_eq_true (by kernel_rfl)
theorem fnok144 : FnOk 144 Tryz.f144 := ⟨Tryz.func144, by kernel_rfl, by kernel_rfl⟩
theorem parok144 : ParOk 144 Tryz.f144 := Nat.le_of_ble_eq_true (by kernel_rfl)
theorem fnok151 : FnOk 151 Tryz.f151 := ⟨Tryz.func151, by kernel_rfl, by kernel_rfl⟩
theorem parok151 : ParOk 151 Tryz.f151 := Nat.le_of_ble_eq_true (by kernel_rfl)
theorem fnok155 : FnOk 155 Tryz.f155 := ⟨Tryz.func155, by kernel_rfl, by kernel_rfl⟩
theorem parok155 : ParOk 155 Tryz.f155 := Nat.le_of_ble_eq_true (by kernel_rfl)
theorem fnok156 : FnOk 156 Tryz.f156 := ⟨Tryz.func156, by kernel_rfl, by kernel_rfl⟩
theorem parok156 : ParOk 156 Tryz.f156 := Nat.le_of_ble_eq_true (by kernel_rfl)
theorem fnok157 : FnOk 157 Tryz.f157 := ⟨Tryz.func157, by kernel_rfl, by kernel_rfl⟩
theorem parok157 : ParOk 157 Tryz.f157 := Nat.le_of_ble_eq_true (by kernel_rfl)
theorem fnok158 : FnOk 158 Tryz.f158 := ⟨Tryz.func158, by kernel_rfl, by kernel_rfl⟩
theorem parok158 : ParOk 158 Tryz.f158 := Nat.le_of_ble_eq_true (by kernel_rfl)
theorem fnok159 : FnOk 159 Tryz.f159 := ⟨Tryz.func159, by kernel_rfl, by kernel_rfl⟩
theorem parok159 : ParOk 159 Tryz.f159 := Nat.le_of_ble_eq_true (by kernel_rfl)
theorem fnok160 : FnOk 160 Tryz.f160 := ⟨Tryz.func160, by kernel_rfl, by kernel_rfl⟩
theorem parok160 : ParOk 160 Tryz.f160 := Nat.le_of_ble_eq_true (by kernel_rfl)
theorem fnok161 : FnOk 161 Tryz.f161 := ⟨Tryz.func161, by kernel_rfl, by kernel_rfl⟩
theorem parok161 : ParOk 161 Tryz.f161 := Nat.le_of_ble_eq_true (by kernel_rfl)
theorem fnok162 : FnOk 162 Tryz.f162 := ⟨Tryz.func162, by kernel_rfl, by kernel_rfl⟩
theorem parok162 : ParOk 162 Tryz.f162 := Nat.le_of_ble_eq_true (by kernel_rfl)
theorem fnok163 : FnOk 163 Tryz.f163 := ⟨Tryz.func163, by kernel_rfl, by kernel_rfl⟩
theorem parok163 : ParOk 163 Tryz.f163 := Nat.le_of_ble_eq_true (by kernel_rfl)
theorem fnok165 : FnOk 165 Tryz.f165 := ⟨Tryz.func165, by kernel_rfl, by kernel_rfl⟩
theorem parok165 : ParOk 165 Tryz.f165 := Nat.le_of_ble_eq_true (by kernel_rfl)
theorem fnok166 : FnOk 166 Tryz.f166 := ⟨Tryz.func166, by kernel_rfl, by kernel_rfl⟩
theorem parok166 : ParOk 166 Tryz.f166 := Nat.le_of_ble_eq_true (by kernel_rfl)
theorem fnok167 : FnOk 167 Tryz.f167 := ⟨Tryz.func167, by kernel_rfl, by kernel_rfl⟩
theorem parok167 : ParOk 167 Tryz.f167 := Nat.le_of_ble_eq_true (by kernel_rfl)
theorem fnok168 : FnOk 168 Tryz.f168 := ⟨Tryz.func168, by kernel_rfl, by kernel_rfl⟩
theorem parok168 : ParOk 168 Tryz.f168 := Nat.le_of_ble_eq_true (by kernel_rfl)
theorem fnok169 : FnOk 169 Tryz.f169 := ⟨Tryz.func169, by kernel_rfl, by kernel_rfl⟩
theorem parok169 : ParOk 169 Tryz.f169 := Nat.le_of_ble_eq_true (by kernel_rfl)
theorem fnok170 : FnOk 170 Tryz.f170 := ⟨Tryz.func170, by kernel_rfl, by kernel_rfl⟩
theorem parok170 : ParOk 170 Tryz.f170 := Nat.le_of_ble_eq_true (by kernel_rfl)
theorem fnok171 : FnOk 171 Tryz.f171 := ⟨Tryz.func171, by kernel_rfl, by kernel_rfl⟩
theorem parok171 : ParOk 171 Tryz.f171 := Nat.le_of_ble_eq_true (by kernel_rfl)
theorem fnok172 : FnOk 172 Tryz.f172 := ⟨Tryz.func172, by kernel_rfl, by kernel_rfl⟩
theorem parok172 : ParOk 172 Tryz.f172 := Nat.le_of_ble_eq_true (by kernel_rfl)
theorem fnok173 : FnOk 173 Tryz.f173 := ⟨Tryz.func173, by kernel_rfl, by kernel_rfl⟩
theorem parok173 : ParOk 173 Tryz.f173 := Nat.le_of_ble_eq_true (by kernel_rfl)
theorem fnok174 : FnOk 174 Tryz.f174 := ⟨Tryz.func174, by kernel_rfl, by kernel_rfl⟩
theorem parok174 : ParOk 174 Tryz.f174 := Nat.le_of_ble_eq_true (by kernel_rfl)
theorem fnok175 : FnOk 175 Tryz.f175 := ⟨Tryz.func175, by kernel_rfl, by kernel_rfl⟩
theorem parok175 : ParOk 175 Tryz.f175 := Nat.le_of_ble_eq_true (by kernel_rfl)
theorem fnok176 : FnOk 176 Tryz.f176 := ⟨Tryz.func176, by kernel_rfl, by kernel_rfl⟩
theorem parok176 : ParOk 176 Tryz.f176 := Nat.le_of_ble_eq_true (by kernel_rfl)
theorem fnok177 : FnOk 177 Tryz.f177 := ⟨Tryz.func177, by kernel_rfl, by kernel_rfl⟩
theorem parok177 : ParOk 177 Tryz.f177 := Nat.le_of_ble_eq_true (by kernel_rfl)
theorem fnok178 : FnOk 178 Tryz.f178 := ⟨Tryz.func178, by kernel_rfl, by kernel_rfl⟩
theorem parok178 : ParOk 178 Tryz.f178 := Nat.le_of_ble_eq_true (by kernel_rfl)
theorem fnok179 : FnOk 179 Tryz.f179 := ⟨Tryz.func179, by kernel_rfl, by kernel_rfl⟩
theorem parok179 : ParOk 179 Tryz.f179 := Nat.le_of_ble_eq_true (by kernel_rfl)
theorem fnok180 : FnOk 180 Tryz.f180 := ⟨Tryz.func180, by kernel_rfl, by kernel_rfl⟩
theorem parok180 : ParOk 180 Tryz.f180 := Nat.le_of_ble_eq_true (by kernel_rfl)
theorem fnok181 : FnOk 181 Tryz.f181 := ⟨Tryz.func181, by kernel_rfl, by kernel_rfl⟩
theorem parok181 : ParOk 181 Tryz.f181 := Nat.le_of_ble_eq_true (by kernel_rfl)
theorem fnok182 : FnOk 182 Tryz.f182 := ⟨Tryz.func182, by kernel_rfl, by kernel_rfl⟩
theorem parok182 : ParOk 182 Tryz.f182 := Nat.le_of_ble_eq_true (by kernel_rfl)
theorem fnok212 : FnOk 212 Tryz.f212 := ⟨Tryz.func212, by kernel_rfl, by kernel_rfl⟩
theorem parok212 : ParOk 212 Tryz.f212 := Nat.le_of_ble_eq_true (by kernel_rfl)
theorem fnok213 : FnOk 213 Tryz.f213 := ⟨Tryz.func213, by kernel_rfl, by kernel_rfl⟩
theorem parok213 : ParOk 213 Tryz.f213 := Nat.le_of_ble_eq_true (by kernel_rfl)
theorem fnok214 : FnOk 214 Tryz.f214 := ⟨Tryz.func214, by kernel_rfl, by kernel_rfl⟩
theorem parok214 : ParOk 214 Tryz.f214 := Nat.le_of_ble_eq_true (by kernel_rfl)
theorem fnok215 : FnOk 215 Tryz.f215 := ⟨Tryz.func215, by kernel_rfl, by kernel_rfl⟩
theorem parok215 : ParOk 215 Tryz.f215 := Nat.le_of_ble_eq_true (by kernel_rfl)
theorem fns_ok : ∀ f fn, look fns f = some fn → FnOk f fn := look_all (Q := FnOk) (l := fns) (all_cons fnok3 (all_cons fnok4 (all_cons fnok5 (all_cons fnok6 (all_cons fnok8 (all_cons fnok9 (all_cons fnok11 (all_cons fnok12 (all_cons fnok13 (all_cons fnok14 (all_cons fnok15 (all_cons fnok16 (all_cons fnok17 (all_cons fnok18 (all_cons fnok19 (all_cons fnok20 (all_cons fnok21 (all_cons fnok22 (all_cons fnok23 (all_cons fnok24 (all_cons fnok25 (all_cons fnok26 (all_cons fnok27 (all_cons fnok28 (all_cons fnok29 (all_cons fnok30 (all_cons fnok31 (all_cons fnok32 (all_cons fnok33 (all_cons fnok34 (all_cons fnok35 (all_cons fnok36 (all_cons fnok37 (all_cons fnok38 (all_cons fnok39 (all_cons fnok40 (all_cons fnok41 (all_cons fnok42 (all_cons fnok43 (all_cons fnok44 (all_cons fnok45 (all_cons fnok46 (all_cons fnok47 (all_cons fnok49 (all_cons fnok51 (all_cons fnok52 (all_cons fnok53 (all_cons fnok54 (all_cons fnok55 (all_cons fnok56 (all_cons fnok57 (all_cons fnok58 (all_cons fnok66 (all_cons fnok67 (all_cons fnok68 (all_cons fnok69 (all_cons fnok70 (all_cons fnok71 (all_cons fnok72 (all_cons fnok73 (all_cons fnok74 (all_cons fnok75 (all_cons fnok76 (all_cons fnok77 (all_cons fnok78 (all_cons fnok79 (all_cons fnok80 (all_cons fnok81 (all_cons fnok82 (all_cons fnok83 (all_cons fnok84 (all_cons fnok85 (all_cons fnok86 (all_cons fnok87 (all_cons fnok88 (all_cons fnok89 (all_cons fnok90 (all_cons fnok91 (all_cons fnok92 (all_cons fnok93 (all_cons fnok94 (all_cons fnok95 (all_cons fnok96 (all_cons fnok97 (all_cons fnok98 (all_cons fnok99 (all_cons fnok100 (all_cons fnok101 (all_cons fnok103 (all_cons fnok104 (all_cons fnok105 (all_cons fnok107 (all_cons fnok108 (all_cons fnok109 (all_cons fnok110 (all_cons fnok111 (all_cons fnok112 (all_cons fnok113 (all_cons fnok114 (all_cons fnok115 (all_cons fnok120 (all_cons fnok121 (all_cons fnok136 (all_cons fnok137 (all_cons fnok144 (all_cons fnok151 (all_cons fnok155 (all_cons fnok156 (all_cons fnok157 (all_cons fnok158 (all_cons fnok159 (all_cons fnok160 (all_cons fnok161 (all_cons fnok162 (all_cons fnok163 (all_cons fnok165 (all_cons fnok166 (all_cons fnok167 (all_cons fnok168 (all_cons fnok169 (all_cons fnok170 (all_cons fnok171 (all_cons fnok172 (all_cons fnok173 (all_cons fnok174 (all_cons fnok175 (all_cons fnok176 (all_cons fnok177 (all_cons fnok178 (all_cons fnok179 (all_cons fnok180 (all_cons fnok181 (all_cons fnok182 (all_cons fnok212 (all_cons fnok213 (all_cons fnok214 (all_cons fnok215 (all_cons fnok102 (all_cons fnok106 all_nil)))))))))))))))))))))))))))))))))))))))))))))))))))))))))))))))))))))))))))))))))))))))))))))))))))))))))))))))))))))))))))))))))))))))))))
theorem ctx_ok : CtxOk Tryz.prog CT := ⟨tis_ok, fns_ok, by kernel_rfl, inv_keeps⟩
theorem pars_ok : ∀ i fn, look fns i = some fn → ParOk i fn := look_all (Q := ParOk) (l := fns) (all_cons parok3 (all_cons parok4 (all_cons parok5 (all_cons parok6 (all_cons parok8 (all_cons parok9 (all_cons parok11 (all_cons parok12 (all_cons parok13 (all_cons parok14 (all_cons parok15 (all_cons parok16 (all_cons parok17 (all_cons parok18 (all_cons parok19 (all_cons parok20 (all_cons parok21 (all_cons parok22 (all_cons parok23 (all_cons parok24 (all_cons parok25 (all_cons parok26 (all_cons parok27 (all_cons parok28 (all_cons parok29 (all_cons parok30 (all_cons parok31 (all_cons parok32 (all_cons parok33 (all_cons parok34 (all_cons parok35 (all_cons parok36 (all_cons parok37 (all_cons parok38 (all_cons parok39 (all_cons parok40 (all_cons parok41 (all_cons parok42 (all_cons parok43 (all_cons parok44 (all_cons parok45 (all_cons parok46 (all_cons parok47 (all_cons parok49 (all_cons parok51 (all_cons parok52 (all_cons parok53 (all_cons parok54 (all_cons parok55 (all_cons parok56 (all_cons parok57 (all_cons parok58 (all_cons parok66 (all_cons parok67 (all_cons parok68 (all_cons parok69 (all_cons parok70 (all_cons parok71 (all_cons parok72 (all_cons parok73 (all_cons parok74 (all_cons parok75 (all_cons parok76 (all_cons parok77 (all_cons parok78 (all_cons parok79 (all_cons parok80 (all_cons parok81 (all_cons parok82 (all_cons parok83 (all_cons parok84 (all_cons parok85 (all_cons parok86 (all_cons parok87 (all_cons parok88 (all_cons parok89 (all_cons parok90 (all_cons parok91 (all_cons parok92 (all_cons parok93 (all_cons parok94 (all_cons parok95 (all_cons parok96 (all_cons parok97 (all_cons parok98 (all_cons parok99 (all_cons parok100 (all_cons parok101 (all_cons parok103 (all_cons parok104 (all_cons parok105 (all_cons parok107 (all_cons parok108 (all_cons parok109 (all_cons parok110 (all_cons parok111 (all_cons parok112 (all_cons parok113 (all_cons parok114 (all_cons parok115 (all_cons parok120 (all_cons parok121 (all_cons parok136 (all_cons parok137 (all_cons parok144 (all_cons parok151 (all_cons parok155 (all_cons parok156 (all_cons parok157 (all_cons parok158 (all_cons parok159 (all_cons parok160 (all_cons parok161 (all_cons parok162 (all_cons parok163 (all_cons parok165 (all_cons parok166 (all_cons parok167 (all_cons parok168 (all_cons parok169 (all_cons parok170 (all_cons parok171 (all_cons parok172 (all_cons parok173 (all_cons parok174 (all_cons parok175 (all_cons parok176 (all_cons parok177 (all_cons parok178 (all_cons parok179 (all_cons parok180 (all_cons parok181 (all_cons parok182 (all_cons parok212 (all_cons parok213 (all_cons parok214 (all_cons parok215 (all_cons parok102 (all_cons parok106 all_nil)))))))))))))))))))))))))))))))))))))))))))))))))))))))))))))))))))))))))))))))))))))))))))))))))))))))))))))))))))))))))))))))))))))))))))
theorem sound (hE : ExtOk Tryz.prog CT) : ∀ k, SpecOk Tryz.prog (sem CT k) ∧ StageOk Tryz.prog (sem CT k) := sem_sound ctx_ok hE pars_ok
theorem ext_ok : ExtOk Tryz.prog CT := ext_of (l := extL) rfl (allE_cons (ext_at (Q.dec_ok inv_keeps inv_max)) (allE_cons (ext_at (Q.div_ok inv_max)) (allE_cons (ext_at (Q.mul_ok inv_max)) (allE_cons (ext_at (repeat_ok)) (allE_cons (ext_at (cut_ok inv_max)) (allE_cons (ext_at (Q.trim_ok inv_max)) (allE_cons (ext_at (Q.of_ok inv_max)) (allE_cons (ext_at (Q.cmp_ok inv_max)) (allE_cons (ext_at (Q.pow_ok inv_max)) (allE_cons (ext_at (Q.rmul_ok inv_max)) (allE_cons (ext_at (Q.rtrim_ok inv_max)) (allE_cons (ext_at (Q.rpow_ok inv_max)) (allE_cons (ext_at (Q.rdiv_ok inv_max)) (allE_cons (ext_at (Q.rsmall_ok inv_max)) (allE_cons (ext_at (Q.add_ok inv_max)) (allE_cons (ext_at (Q.gcd_ok inv_max)) (allE_cons (ext_at (Q.rgcd_ok inv_max)) (allE_cons (ext_at (Q.radd_ok inv_max)) (allE_cons (ext_at (Q.rof_ok inv_max)) (allE_cons (ext_at (Q.rbits_ok inv_max)) (allE_cons (ext_at (Q.rcmp_ok inv_max)) allE_nil)))))))))))))))))))))
theorem spec_ok (k : Nat) : SpecOk Tryz.prog (sem CT k) := (sound ext_ok k).1
end Go.Proofs.YtenapomineinbaaGreatDoor.K
