/- abacist/dec.Text: a natural in decimal digits: the contract, by hand (a strings.Builder). -/
import Derived.Test.YtcdcijhfjiahkaaDoorRPQ
import Derived.Test.YtcdcijhfjiahkaaDoorRKW
import Derived.WalkKit
import Derived.BigCall
import Derived.Maps.AppendAt
import Derived.Shelf.Strings.BuilderK
namespace Go.Proofs.YtcdcijhfjiahkaaDoorR.Q
open Go Go.RowKit Go.Shelf
open Go.Proofs.YtcdcijhfjiahkaaDoorR.K (Ty den tyL RetT CallT cond_some ret_str denStr DenL DenL_2 DenL_1 DenV DeepC ResL_plain hasOwn oneV MaxLen)
open Go.Proofs.YtcdcijhfjiahkaaDoorR.P (nat val divmod small nat_val_length len_mono val_nat nat_eq_nil nat_zero)
set_option linter.unusedVariables false
set_option linter.unusedSimpArgs false
theorem writeStr (B b : Nat) (bs : List Value) (s : ByteArray) (w : World) (h : Lib.IsBuilderF 112 5 B b bs w) (hlen : bs.length + s.size ≤ 140737488355328) (hBw : B ≤ w.heap.size) :
    Calls Tryd.prog 101 #[.pointer (some ⟨b, 0, none⟩), .string s] w fun e w' => e = .returned (.tuple #[.int .i64 s.size, .nilIface]) ∧ (Lib.BuilderAtF 112 5 B b (.pointer (some ⟨b, 0, none⟩)) (bs ++ Lib.strCells s) w' ∧ Below B w w' ∧ Lib.OthersKept 5 (some b) w w') :=
  Any.Builder_WriteString_k (P := Tryd.prog) (ρ := Tryd.lays156_ren) { Tryd.lays156 with } Tryd.Builder_Extra_156 B b bs s w h hlen hBw
theorem ret_any {ts : List Ty} {w w' : World} {fz0 : Nat → Prop} {r : den (tyL ts)} {e : Ending} (ho : hasOwn (tyL ts) = false) (h : RetT ts w fz0 r e w') : ∃ (ok : Nat → Prop) (vs : List Value), e = .returned (oneV vs) ∧ Below w.heap.size w w' ∧ DenL w'.heap ok ts r vs := by
  obtain ⟨v, rfl, hb, ow, ok, vs, _, _, _, rfl, hres⟩ := h
  exact ⟨ok, vs, rfl, hb, (ResL_plain ts ho hres).2⟩
theorem denS {hp : Array Obj} {ok : Nat → Prop} {r : List UInt8} {v : Value} (h : DenV hp ok .str r v) : v = .string ⟨r.toArray⟩ := by
  have h : Ty.str ≠ .unit ∧ [v] = [Value.string ⟨r.toArray⟩] := h
  simpa using h.2
theorem denI {hp : Array Obj} {ok : Nat → Prop} {k : IntKind} {r : Int} {v : Value} (h : DenV hp ok (.int k) r v) : v = .int k r := by
  have h : Ty.int k ≠ .unit ∧ [v] = [Value.int k r] := h
  simpa using h.2
theorem denB {hp : Array Obj} {ok : Nat → Prop} {r : Bool} {v : Value} (h : DenV hp ok .bool r v) : v = .bool r := by
  have h : Ty.bool ≠ .unit ∧ [v] = [Value.bool r] := h
  simpa using h.2
theorem denL2 {hp : Array Obj} {ok : Nat → Prop} {t u : Ty} {ts : List Ty} {x : den t} {y : den (tyL (u :: ts))} {v : Value} {vs : List Value} (h : DenV hp ok t x v) (h' : DenL hp ok (u :: ts) y vs) : DenL hp ok (t :: u :: ts) ((x, y) : den t × den (tyL (u :: ts))) (v :: vs) := by
  show ∃ v0 vs0, v :: vs = v0 :: vs0 ∧ DenV hp ok t x v0 ∧ DenL hp ok (u :: ts) y vs0
  exact ⟨v, vs, rfl, h, h'⟩
theorem denS' {hp : Array Obj} {ok : Nat → Prop} (r : List UInt8) : DenV hp ok .str r (.string ⟨r.toArray⟩) := by
  show Ty.str ≠ .unit ∧ [Value.string ⟨r.toArray⟩] = [Value.string ⟨r.toArray⟩]
  exact ⟨by simp, rfl⟩
theorem denI' {hp : Array Obj} {ok : Nat → Prop} (k : IntKind) (r : Int) : DenV hp ok (.int k) r (.int k r) := by
  show Ty.int k ≠ .unit ∧ [Value.int k r] = [Value.int k r]
  exact ⟨by simp, rfl⟩
theorem denN {hp : Array Obj} {ok : Nat → Prop} (k : IntKind) (r : Int) : DenL hp ok [.int k] r [.int k r] := by
  show ∃ v, [Value.int k r] = [v] ∧ DenV hp ok (.int k) r v
  exact ⟨_, rfl, denI' k r⟩
variable {inv : World → Prop}
theorem cTrim (h : CallT Tryd.prog 17 [.str] [.str] inv trimQ) (s : List UInt8) (hs : s.length ≤ 1000000000) (W : World) (hi : inv W) :
    Calls Tryd.prog 17 #[.string ⟨s.toArray⟩] W fun e w' => e = .returned (.string ⟨(nat (val s)).toArray⟩) ∧ Below W.heap.size W w' := by
  have hg : trimQ s = some (nat (val s)) := by unfold trimQ ok1; rw [show Nat.ble s.length 1000000000 = true from Nat.ble_eq_true_of_le hs, cond_true, P.trimB]
  exact (h s _ hg W (fun _ => False) [.string ⟨s.toArray⟩] (fun _ h => h.elim) hi (denStr s)).mono fun e w' hr => ret_str hr
theorem cOf (h : CallT Tryd.prog 15 [.int .u64] [.str] inv ofQ) (W : World) (hi : inv W) :
    Calls Tryd.prog 15 #[.int .u64 1000000000] W fun e w' => e = .returned (.string ⟨(nat 1000000000).toArray⟩) ∧ Below W.heap.size W w' :=
  (h (1000000000 : Int) (nat 1000000000) rfl W (fun _ => False) [.int .u64 1000000000] (fun _ h => h.elim) hi ⟨_, rfl, denI' .u64 1000000000⟩).mono fun e w' hr => ret_str hr
theorem cDiv (h : CallT Tryd.prog 99 [.str, .str] [.str, .str, .int .i64] inv divQ) (m : Nat) (hm : (nat m).length ≤ 1000000000) (W : World) (hi : inv W) :
    Calls Tryd.prog 99 #[.string ⟨(nat m).toArray⟩, .string ⟨(nat 1000000000).toArray⟩] W fun e w' =>
      e = .returned (.tuple #[.string ⟨(nat (m / 1000000000)).toArray⟩, .string ⟨(nat (m % 1000000000)).toArray⟩, .int .i64 0]) ∧ Below W.heap.size W w' := by
  have hl : (nat 1000000000).length ≤ 1000000000 := by decide
  have hg : divQ (nat m, nat 1000000000) = some (nat (m / 1000000000), nat (m % 1000000000), 0) := by
    unfold divQ ok1
    simp only
    rw [show Nat.ble (nat m).length 1000000000 = true from Nat.ble_eq_true_of_le hm, show Nat.ble (nat 1000000000).length 1000000000 = true from Nat.ble_eq_true_of_le hl, Bool.and_self, cond_true, val_nat, val_nat, divmod, if_neg (by decide)]
  refine (h (nat m, nat 1000000000) _ hg W (fun _ => False) [.string ⟨(nat m).toArray⟩, .string ⟨(nat 1000000000).toArray⟩] (fun _ h => h.elim) hi (denL2 (denS' _) (denStr _))).mono fun e w' hr => ?_
  obtain ⟨ok, vs, rfl, hb, hd⟩ := ret_any rfl hr
  obtain ⟨v1, vs1, rfl, h1, hd⟩ := hd
  obtain ⟨v2, vs2, rfl, h2, hd⟩ := hd
  obtain ⟨v3, rfl, h3⟩ := hd
  obtain rfl := denS h1
  obtain rfl := denS h2
  obtain rfl := denI h3
  exact ⟨rfl, hb⟩
theorem cSmall (h : CallT Tryd.prog 13 [.str] [.int .u64, .bool] inv smallQ) (r : Nat) (hr : r < 1000000000) (W : World) (hi : inv W) :
    Calls Tryd.prog 13 #[.string ⟨(nat r).toArray⟩] W fun e w' => e = .returned (.tuple #[.int .u64 (r : Int), .bool true]) ∧ Below W.heap.size W w' := by
  have hl : (nat r).length ≤ 4 := P.nat_length_le (by omega)
  have hg : smallQ (nat r) = some ((r : Int), true) := by
    unfold smallQ ok1
    rw [show Nat.ble (nat r).length 1000000000 = true from Nat.ble_eq_true_of_le (by omega), cond_true, val_nat, small, if_pos (by omega)]
  refine (h (nat r) _ hg W (fun _ => False) [.string ⟨(nat r).toArray⟩] (fun _ h => h.elim) hi (denStr _)).mono fun e w' hr => ?_
  obtain ⟨ok, vs, rfl, hb, hd⟩ := ret_any rfl hr
  obtain ⟨v1, vs1, rfl, h1, hd⟩ := hd
  obtain ⟨v2, rfl, h2⟩ := hd
  obtain rfl := denI h1
  obtain rfl := denB h2
  exact ⟨rfl, hb⟩
theorem cDig (h : CallT Tryd.prog 100 [.int .u64, .int .i64] [.str] inv digitsQ) (r : Nat) (hr : r < 1000000000) (W : World) (hi : inv W) :
    Calls Tryd.prog 100 #[.int .u64 (r : Int), .int .i64 9] W fun e w' => e = .returned (.string ⟨(digitsL 9 r).toArray⟩) ∧ Below W.heap.size W w' := by
  have hg : digitsQ (((r : Int), (9 : Int)) : Int × Int) = some (digitsL 9 r) := by
    unfold digitsQ
    rw [show (decide ((0 : Int) ≤ (((r : Int), (9 : Int)) : Int × Int).1) && (decide ((((r : Int), (9 : Int)) : Int × Int).1 < 18446744073709551616) && (decide ((0 : Int) ≤ (((r : Int), (9 : Int)) : Int × Int).2) && decide ((((r : Int), (9 : Int)) : Int × Int).2 ≤ 1000)))) = true by simp; omega, cond_true]; rfl
  exact (h (((r : Int), (9 : Int)) : Int × Int) _ hg W (fun _ => False) [.int .u64 (r : Int), .int .i64 9] (fun _ h => h.elim) hi (denL2 (u := .int .i64) (ts := []) (y := (9 : Int)) (denI' .u64 (r : Int)) (denN .i64 9))).mono fun e w' hr => ret_str hr
theorem cTL (l : List UInt8) (W : World) : Calls Tryd.prog 76 #[.string ⟨l.toArray⟩, .string ⟨#[48]⟩] W fun e w' => e = .returned (.string ⟨(Lib.trimLeftB l 48).toArray⟩) ∧ Below W.heap.size W w' :=
  (K.trimLeft_ok (inv := fun _ => True) (l, [48]) (Lib.trimLeftB l 48) rfl W (fun _ => False) [.string ⟨l.toArray⟩, .string ⟨#[48]⟩] (fun _ h => h.elim) trivial (denL2 (denS' l) (denStr [48]))).mono fun e w' hr => ret_str hr
/-- The parts of nine digits, the lowest first. -/
def decPartsF : Nat → Nat → List (List UInt8)
  | 0, _ => []
  | f + 1, n => if n = 0 then [] else digitsL 9 (n % 1000000000) :: decPartsF f (n / 1000000000)
def decParts (n : Nat) : List (List UInt8) := decPartsF n n
theorem decPartsF_eq : ∀ (f g n : Nat), n ≤ f → n ≤ g → decPartsF f n = decPartsF g n
  | 0, g, n, h1, h2 => by
    obtain rfl : n = 0 := by omega
    cases g <;> simp [decPartsF]
  | f + 1, 0, n, h1, h2 => by
    obtain rfl : n = 0 := by omega
    simp [decPartsF]
  | f + 1, g + 1, n, h1, h2 => by
    by_cases h : n = 0
    · subst h; simp [decPartsF]
    · rw [decPartsF, decPartsF, if_neg h, if_neg h, decPartsF_eq f g (n / 1000000000) (by omega) (by omega)]
theorem decParts_zero : decParts 0 = [] := rfl
theorem decParts_pos {n : Nat} (h : n ≠ 0) : decParts n = digitsL 9 (n % 1000000000) :: decParts (n / 1000000000) := by
  obtain ⟨m, rfl⟩ : ∃ m, n = m + 1 := ⟨n - 1, by omega⟩
  conv => lhs; unfold decParts
  rw [decPartsF, if_neg h, decPartsF_eq m ((m + 1) / 1000000000) _ (by omega) (Nat.le_refl _)]; rfl
def decTrim (l : List UInt8) : List UInt8 := cond (decide (Lib.trimLeftB l 48 = [])) [48] (Lib.trimLeftB l 48)
def decText (n : Nat) : List UInt8 := decTrim ((decParts n).reverse.flatten)
theorem len_div (n : Nat) (h : n ≠ 0) : (nat (n / 1000000000)).length + 1 ≤ (nat n).length := by
  have h1 : (nat n).length = (nat (n / 256)).length + 1 := by rw [P.nat_length, P.nat_length, P.digs_pos h]; simp
  have := len_mono (show n / 1000000000 ≤ n / 256 by omega)
  omega
theorem decParts_len (n : Nat) : (decParts n).length ≤ (nat n).length := by
  induction n using Nat.strongRecOn with
  | _ n ih =>
    by_cases h : n = 0
    · subst h; rw [decParts_zero]; exact Nat.zero_le _
    · have := ih (n / 1000000000) (by omega)
      have := len_div n h
      rw [decParts_pos h, List.length_cons]; omega
theorem own_keep {w W : World} {n : Nat} {e : TypeId} {size : Nat} {v : Value} {k : Nat} {xs : List Value} (h : w.ownsRow n e size v k xs) (hb : Below w.heap.size w W) : W.ownsRow n e size v k xs := by
  refine ⟨h.1, ?_⟩
  rcases h.2 with h | ⟨g, cap, cur, h1, h2, h3, h4⟩
  · exact .inl h
  · exact .inr ⟨g, cap, cur, h1, h2, (hb.block g (Array.getElem?_eq_some_iff.1 h3).1).trans h3, h4⟩
theorem own_cells {w : World} {n : Nat} {ao : Option Addr} {cv : Nat} {ps : List (List UInt8)} (h : w.ownsRow n 9 1 (.slice ao ps.length cv) ps.length (ps.map fun p => Value.string ⟨p.toArray⟩)) (hp : 0 < ps.length) :
    ∃ g, ao = some ⟨g, 0, none⟩ ∧ ∀ i, i < ps.length → w.cell? ⟨g, i, none⟩ = some (.string ⟨(ps.getD i []).toArray⟩) := by
  rcases h.2 with ⟨_, h⟩ | ⟨g, cap, cur, h1, h2, h3, h4, h5, h6, h7⟩
  · omega
  · injection h1 with h1 _ h8
    refine ⟨g, h1, fun i hi => ?_⟩
    have e : (ps.map fun p => Value.string ⟨p.toArray⟩)[i]? = some (.string ⟨(ps.getD i []).toArray⟩) := by
      rw [List.getElem?_map, List.getElem?_eq_getElem hi, List.getD_eq_getElem?_getD, List.getElem?_eq_getElem hi]; rfl
    rw [← h7, List.getElem?_take, if_pos (by omega)] at e
    simp only [World.cell?, h3]
    simpa using e
theorem own_lt {w : World} {n : Nat} {e : TypeId} {size : Nat} {g : Nat} {k c : Nat} {xs : List Value} (h : w.ownsRow n e size (.slice (some ⟨g, 0, none⟩) k c) k xs) : g < w.heap.size := (h.lt g (by simp [Value.ownBlock])).2
theorem digitsL_length : ∀ k n, (digitsL k n).length = k
  | 0, _ => rfl
  | k + 1, n => by rw [digitsL, List.length_append, digitsL_length k]; rfl
theorem decParts_nine (n : Nat) : ∀ p ∈ decParts n, p.length = 9 := by
  induction n using Nat.strongRecOn with
  | _ n ih =>
    by_cases h : n = 0
    · subst h; rw [decParts_zero]; intro p hp; cases hp
    · rw [decParts_pos h]
      intro p hp
      rcases List.mem_cons.1 hp with rfl | hp
      · exact digitsL_length _ _
      · exact ih _ (by omega) p hp
theorem flat9 (l : List (List UInt8)) (h : ∀ p ∈ l, p.length = 9) : l.flatten.length = 9 * l.length := by
  induction l with
  | nil => rfl
  | cons a l ih =>
    have h1 := h a (List.mem_cons_self ..)
    have h2 := ih fun p hp => h p (List.mem_cons_of_mem _ hp)
    rw [List.flatten_cons, List.length_append, h1, h2, List.length_cons]; omega
theorem take_rev (ps : List (List UInt8)) (k : Nat) (h : k < ps.length) : (ps.reverse.take (k + 1)).flatten = (ps.reverse.take k).flatten ++ ps.getD (ps.length - 1 - k) [] := by
  rw [List.take_add_one, List.getElem?_reverse h, List.getElem?_eq_getElem (by omega), List.getD_eq_getElem?_getD, List.getElem?_eq_getElem (by omega)]
  simp
def HidP (p : Prop) : Prop := p
def strLen : Value → Nat
  | .string s => s.size
  | _ => 0
set_option maxRecDepth 1000000 in
set_option maxHeartbeats 4000000 in
theorem main (hk : ∀ w w', inv w → Below w.heap.size w w' → inv w') (hTrim : CallT Tryd.prog 17 [.str] [.str] inv trimQ) (hOf : CallT Tryd.prog 15 [.int .u64] [.str] inv ofQ)
    (hDiv : CallT Tryd.prog 99 [.str, .str] [.str, .str, .int .i64] inv divQ) (hSmall : CallT Tryd.prog 13 [.str] [.int .u64, .bool] inv smallQ) (hDig : CallT Tryd.prog 100 [.int .u64, .int .i64] [.str] inv digitsQ)
    (s : List UInt8) (hs : s.length ≤ 1000000000) (w : World) (hw : inv w) :
    Calls Tryd.prog 65 #[.string ⟨s.toArray⟩] w fun e w' => e = .returned (.string ⟨(decText (val s)).toArray⟩) ∧ Below w.heap.size w w' := by
  have hkk : ∀ W, Below w.heap.size w W → inv W := fun W hb => hk w W hw hb
  have l0 := nat_val_length s
  have hi9 : (Tryd.prog.info? 9).map (fun i => (i.zero, i.size, i.bytes)) = some (some (.string ByteArray.empty), 1, 16) := by kernel_rfl
  obtain ⟨i0, hi, hz0, hz1, hz2⟩ := info_parts hi9
  clear hi9
  go_enter Tryd.func65, Tryd.ntmps65
  go_wp2_with (go_at_call 17; refine (cTrim hTrim s hs _ hw).mono ?_; rintro e w1 ⟨rfl, hb1⟩)
  go_loopw [0, 3] (fun a v wr => ∃ (m : Nat) (ps : List (List UInt8)) (ao : Option Addr) (cv : Nat), a = .string ⟨(nat m).toArray⟩ ∧ m ≤ val s ∧ v = .slice ao ps.length cv ∧ wr.ownsRow w.heap.size 9 1 v ps.length (ps.map fun p => Value.string ⟨p.toArray⟩) ∧ Below w.heap.size w wr ∧ ps ++ decParts m = decParts (val s)) (fun a _ _ => strLen a)
  case atStart =>
    refine ⟨val s, [], none, 0, rfl, Nat.le_refl _, rfl, World.ownsRow_nil _ _ _ _, hb1, rfl⟩
  case round =>
    obtain ⟨m, ps, ao, cv, rfl, hm, rfl, hown, hbw, hps⟩ := hrel
    have lps : ps.length ≤ 1000000000 := by
      have h1 := congrArg List.length hps
      have h2 := decParts_len (val s)
      rw [List.length_append] at h1
      omega
    by_cases h0 : m = 0
    · subst h0
      go_wp2
      have hwsz := hbw.size
      have hpe0 : ps = decParts (val s) := by simpa [decParts_zero] using hps
      have h9 : ∀ p ∈ ps, p.length = 9 := by rw [hpe0]; exact decParts_nine _
      have hpe : HidP (ps = decParts (val s)) := hpe0
      clear hpe0 hps
      go_loopw [38] (fun i wr2 => ∃ k : Nat, k ≤ ps.length ∧ i = .int .i64 k ∧ Lib.IsBuilderF 112 5 wr.heap.size wr.heap.size (Lib.byteCells (ps.reverse.take k).flatten) wr2 ∧ Below wr.heap.size wr wr2) (fun i _ => ps.length - (intOf i).toNat)
      case atStart =>
        exact ⟨0, Nat.zero_le _, rfl, Lib.IsBuilderF.of (Lib.fresh_isBuilder 112 5 wr), (Below.refl _ wr).alloc (Nat.le_refl _) _⟩
      case round =>
        obtain ⟨k, hk, rfl, hbd, hbr⟩ := hrel
        by_cases hkl : k < ps.length
        · obtain ⟨g, rfl, hcell⟩ := own_cells hown (by omega)
          have hidx : wrap64 (wrap64 ((ps.length : Int) - 1) - (k : Int)) = ((ps.length - 1 - k : Nat) : Int) := by unfold wrap64; omega
          have hc1 := hcell (ps.length - 1 - k) (by omega)
          have hc2 := (hbr.cell (p := ⟨g, ps.length - 1 - k, none⟩) (own_lt hown)).trans hc1
          have hfl : (ps.reverse.take k).flatten.length = 9 * k := by
            rw [flat9 _ (fun p hp => h9 p (by simpa using List.mem_of_mem_take hp)), List.length_take, List.length_reverse, Nat.min_eq_left hk]
          have hp9 : (ps.getD (ps.length - 1 - k) []).length = 9 := by
            rw [List.getD_eq_getElem?_getD, List.getElem?_eq_getElem (by omega)]
            exact h9 _ (List.getElem_mem _)
          have hsz2 := hbr.size
          go_wp2_with (go_at_call 101; refine (writeStr _ _ _ ⟨(ps.getD (ps.length - 1 - k) []).toArray⟩ _ hbd (by rw [Lib.byteCells_length, hfl]; show 9 * k + (ps.getD (ps.length - 1 - k) []).toArray.size ≤ _; rw [List.size_toArray]; omega) hsz2).mono ?_; rintro e W1 ⟨rfl, h1, b1, k1⟩)
          go_roundw
          case rel =>
            have R : k + 1 ≤ ps.length ∧ Value.int .i64 ((k : Int) + 1) = .int .i64 ((k + 1 : Nat) : Int) ∧ Lib.IsBuilderF 112 5 _ _ (Lib.byteCells (ps.reverse.take (k + 1)).flatten) W1 ∧ Below _ _ W1 :=
              ⟨by omega, by go_num, by rw [take_rev ps k hkl, Lib.byteCells_append]; exact Or.inr h1, hbr.trans b1⟩
            first
              | exact ⟨k + 1, R⟩
              | ((repeat apply Exists.intro); exact ⟨⟨k + 1, R⟩, rfl⟩)
          case measure => simp [intOf]; omega
        · have hsz2 := hbr.size
          have hkp : k = ps.length := by omega
          subst hkp
          rw [show ps.reverse.take ps.length = ps.reverse by rw [← List.length_reverse, List.take_length]] at hbd
          go_wp2_with (first
            | (go_at_call 102; refine (Tryd.Builder_String_any_k _ _ _ _ hbd hsz2).mono ?_; rintro e W1 ⟨rfl, h1, b1, k1⟩)
            | (go_at_call 76; refine (cTL _ _).mono ?_; rintro e W2 ⟨rfl, b2⟩))
          all_goals have hbl := (hbw.trans ((hbr.trans b1).mono hwsz)).trans (b2.mono (hbw.trans ((hbr.trans b1).mono hwsz)).size)
          all_goals have hpq : ps = decParts (val s) := hpe
          · have hb : (Lib.trimLeftB ps.reverse.flatten 48).isEmpty = true := by assumption
            go_ret
            refine ⟨?_, hbl⟩
            rw [decText, ← hpq, decTrim, List.isEmpty_iff.1 hb]; rfl
          · have hb : (Lib.trimLeftB ps.reverse.flatten 48).isEmpty = false := by assumption
            go_ret
            refine ⟨?_, hbl⟩
            rw [decText, ← hpq, decTrim, decide_eq_false (by intro e; rw [e] at hb; cases hb)]; rfl
    · have hne : ¬ ((⟨(nat m).toArray⟩ : ByteArray) = ⟨#[]⟩) := fun e => h0 (nat_eq_nil.1 (by simpa using congrArg (fun b : ByteArray => b.data.toList) e))
      have he : (nat m).isEmpty = false := by
        cases h : nat m with
        | nil => exact absurd (nat_eq_nil.1 h) h0
        | cons => rfl
      have lm : (nat m).length ≤ 1000000000 := Nat.le_trans (len_mono hm) (by omega)
      have hr9 := Nat.mod_lt m (show 0 < 1000000000 by decide)
      go_wp2_with (first
        | (go_at_call 15; refine (cOf hOf _ (hkk _ hbw)).mono ?_; rintro e W1 ⟨rfl, b1⟩; have hbw1 := hbw.trans (b1.mono hbw.size))
        | (go_at_call 99; refine (cDiv hDiv m lm _ (hkk _ hbw1)).mono ?_; rintro e W2 ⟨rfl, b2⟩; have hbw2 := hbw1.trans (b2.mono hbw1.size))
        | (go_at_call 13; refine (cSmall hSmall _ hr9 _ (hkk _ hbw2)).mono ?_; rintro e W3 ⟨rfl, b3⟩; have hbw3 := hbw2.trans (b3.mono hbw2.size))
        | (go_at_call 100; refine (cDig hDig _ hr9 _ (hkk _ hbw3)).mono ?_; rintro e W4 ⟨rfl, b4⟩; have hbw4 := hbw3.trans (b4.mono hbw3.size); have hall := ((b1.trans (b2.mono b1.size)).trans (b3.mono (b1.trans (b2.mono b1.size)).size)).trans (b4.mono ((b1.trans (b2.mono b1.size)).trans (b3.mono (b1.trans (b2.mono b1.size)).size)).size); have hs4 := hbw4.size)
        | (at_builtin; refine wpList_append_own _ rfl _ _ 57 rfl w.heap.size 9 i0 (.string ByteArray.empty) 1 16 Tryd.underlying57 hi hz0 hz1 hz2 rfl (by decide) _ _ _ rfl ((own_keep hown hall).alloc _) ⟨W4.heap.size, 0, none⟩ 1 1 [.string ⟨(digitsL 9 (m % 1000000000)).toArray⟩] rfl rfl (cell_one_new _ _ _) (fun x hx => by simp at hx; subst hx; rfl) (by unfold maxLen; omega) (by omega) (by simp; omega) ?_; intro v' w5 hown' hgrow5 hnil5))
      obtain ⟨g3, cap3, rfl⟩ := ownsRow_succ hown'
      have hsz1 := len_div m h0
      exact ⟨⟨m / 1000000000, ps ++ [digitsL 9 (m % 1000000000)], some ⟨g3, 0, none⟩, cap3, rfl, by omega, by simp, by rw [List.map_append, List.length_append]; exact hown', (hbw4.alloc hs4 _).grown hgrow5 (by simp; omega) (fun q hq => (hown.lt q hq).1), by rw [List.append_assoc, ← hps, decParts_pos h0]; rfl⟩, by
        show (nat (m / 1000000000)).toArray.size < (nat m).toArray.size
        simp; omega⟩
def decQ (s : List UInt8) : Option (List UInt8) := cond (ok1 s) (some (decText (val s))) none
theorem dec_ok (hk : ∀ w w', inv w → Below w.heap.size w w' → inv w') (hi : ∀ w, inv w → MaxLen w) : CallT Tryd.prog 65 [.str] [.str] inv decQ := by
  intro y r h w fz0 vs hfz hinv hd
  obtain ⟨hc, rfl⟩ := cond_some h
  obtain rfl := K.unStr hd
  refine (main hk (trim_ok hi) (of_ok hi) (div_ok hi) (small_ok hi) (digits_ok hi) y (ok1_le hc) w hinv).mono fun e w' ⟨he, hb⟩ => ?_
  subst he
  exact K.retT_plain (ts := [.str]) [_] hb rfl (denStr _)
end Go.Proofs.YtcdcijhfjiahkaaDoorR.Q
