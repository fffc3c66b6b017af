/- The law AddrTexts, pure. -/
import Derived.Test.YtcdcijhfjiahkaaDoorRA1
import Derived.Test.YtcdcijhfjiahkaaDoorRA3
import Derived.Test.YtcdcijhfjiahkaaDoorRA5
import Derived.Test.YtcdcijhfjiahkaaDoorRAParea
namespace Go.Proofs.YtcdcijhfjiahkaaDoorR.Pure
open Go.RowKit Go.Proofs.YtcdcijhfjiahkaaDoorRW.PrintWords Go.Proofs.YtcdcijhfjiahkaaDoorRW.PrintMore Go.Proofs.YtcdcijhfjiahkaaDoorR.M Go.Proofs.YtcdcijhfjiahkaaDoorR.P Go.Proofs.YtcdcijhfjiahkaaDoorR.AP Go.Proofs.YtcdcijhfjiahkaaDoorR.A
set_option linter.unusedVariables false
set_option linter.unusedSimpArgs false
theorem addrTexts_tail (c r : Int) (s : ByteArray) (hs : s.size ≤ 140737488351232) (p : Int × Int × Int) (hp : parseL (L s) = p) : Ev (fun k => abacistlaw10_AddrTexts.j0 k c r s p.1 p.2.1 p.2.2 false) true := by
  refine Ev.step (fun k => by rw [abacistlaw10_AddrTexts.j0]) ?_
  refine Ev.neg (by decide) ?_
  refine Ev.bind (addrText c r) ?_
  have hts : (textT c r).size ≤ 4 := by
    unfold textT
    split
    · rename_i h
      obtain ⟨h1, h2, h3, h4⟩ := inA_iff.1 h
      have e1 := colT_size (n := c.toNat) (by omega)
      have e2 := rowT_size (n := r.toNat) (by omega)
      rw [← L_length, L_append, List.length_append, L_length, L_length]
      omega
    · decide
  refine Ev.bind (addrParse (textT c r) (by omega)) ?_
  refine Ev.some (refIn c r) ?_
  have rest : Ev (fun k => if p.2.2 = 0 then (addr_Text.f k p.1 p.2.1).bind fun t240 => (if t240.toList = s.toList then ((abacistlaw10_known.f k).bind fun t241 => (some t241)) else (some false)) else ((abacistlaw10_known.f k).bind fun t242 => (some t242))) true := by
    by_cases h0 : p.2.2 = 0
    · refine Ev.pos h0 ?_
      refine Ev.bind (addrText p.1 p.2.1) ?_
      refine Ev.pos ?_ (Ev.bind known (Ev.now _))
      rw [told s p.1 p.2.1 (by rw [hp, ← h0])]
    · refine Ev.neg h0 ?_
      exact Ev.bind known (Ev.now _)
  by_cases hin : inA c r = true
  · refine Ev.pos hin ?_
    rw [back hin]
    refine Ev.pos rfl ?_
    refine Ev.pos rfl ?_
    refine Ev.pos rfl ?_
    exact rest
  · refine Ev.neg hin ?_
    exact rest
theorem AddrTexts (a0 : Int) (a1 : Int) (a2 : ByteArray) (h0 : (Lit.int .i64 a0).wf = true) (h1 : (Lit.int .i64 a1).wf = true) (h2 : a2.size ≤ 140737488351232) : ∃ k, abacistlaw10_AddrTexts.f k a0 a1 a2 = some true := by
  apply Ev.rounds (g := fun k => abacistlaw10_AddrTexts.f k a0 a1 a2)
  unfold abacistlaw10_AddrTexts.f
  by_cases hl : (a2.size : Int) > 100
  · refine Ev.pos hl ?_
    exact Ev.bind known (Ev.now _)
  · refine Ev.neg hl ?_
    refine Ev.bind (addrColOf a2) ?_
    refine Ev.bind (refColOf a2) ?_
    refine Ev.bind (addrParse a2 (by omega)) ?_
    refine Ev.bind (refParse a2 (by omega)) ?_
    refine Ev.some (addrIn a0 a1) ?_
    refine Ev.some (refIn a0 a1) ?_
    refine Ev.neg (by simp) ?_
    obtain ⟨t, ht1, ht2⟩ : ∃ t, addr_Col.f a0 = some t ∧ Ev (fun k => abacistref10_Col.f k a0) t := by
      by_cases h : 1 ≤ a0 ∧ a0 ≤ 52
      · obtain ⟨n, rfl⟩ := Int.eq_ofNat_of_zero_le (show 0 ≤ a0 by omega)
        exact ⟨_, addrCol n (by omega) (by omega), refCol n (by omega) (by omega)⟩
      · exact ⟨_, addrCol_out a0 h, refCol_out a0 h⟩
    refine Ev.some ht1 ?_
    refine Ev.bind ht2 ?_
    refine Ev.pos rfl ?_
    refine Ev.bind (addrText a0 a1) ?_
    refine Ev.bind (refText10 a0 a1) ?_
    refine Ev.pos rfl ?_
    refine Ev.pos rfl ?_
    refine Ev.neg (by simp) ?_
    refine Ev.pos rfl ?_
    refine Ev.pos rfl ?_
    rw [show ((parseL (L a2)).2.2 != (parseL (L a2)).2.2) = false by simp]
    exact addrTexts_tail a0 a1 a2 h2 _ rfl
end Go.Proofs.YtcdcijhfjiahkaaDoorR.Pure
