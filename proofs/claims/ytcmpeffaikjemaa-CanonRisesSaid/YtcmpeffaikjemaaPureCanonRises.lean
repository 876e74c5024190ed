/- CanonRises holds: a code of a greater length, filled with noughts to 15 bits, is greater than any shorter one filled so; at all lists of ints and two ints. No condition. -/
import Derived.Test.YtcmpeffaikjemaaCanonG
import Derived.Test.YtcmpeffaikjemaaPx6
import Derived.Test.YtcmpeffaikjemaaPx17
namespace Go.Proofs.Ytcmpeffaikjemaa.Pure
open Go.RowKit Go.Proofs.Ytcmpeffaikjemaa.P Go.Proofs.Ytcmpeffaikjemaa.Glue Go.Proofs.YtcmpeffaikjemaaW.PrintWords Go.Proofs.YtcmpeffaikjemaaW.PrintLast Go.Proofs.YtcmpeffaikjemaaW.PrintMore

theorem rises_j2 {l : List Int} (hm : Makes l) {i j : Nat} (hi : i < l.length) (hj : j < l.length) (k : Nat) (hk : 50 ≤ k) (b : Bool) (hb : b = false → 0 < l.getD i 0 ∧ l.getD i 0 < l.getD j 0) :
    wherrylaw02_CanonRises.j2 k l (i : Int) (j : Int) (codesL l) b = some true := by
  obtain ⟨k, rfl⟩ : ∃ m, k = m + 1 := ⟨k - 1, by omega⟩
  simp only [wherrylaw02_CanonRises.j2]
  cases b with
  | true => rw [if_pos rfl, wakes02_is k (by omega)]; rfl
  | false =>
    obtain ⟨h1, h2⟩ := hb rfl
    obtain ⟨n, hn, hn15⟩ := hm.at hi
    obtain ⟨m, hmm, hm15⟩ := hm.at hj
    have hlen := codesL_length l
    have hle := hm.len
    have c1 := codeN_small hm hi hn (by omega) hn15
    have c2 := codeN_small hm hj hmm (by omega) hm15
    have hlt := codes_rise (k := j) hi hn (by omega) (by omega : n < m) hm15
    rw [if_neg (by decide), if_pos (by omega), if_pos (by omega), if_pos (by omega), rd_nat, rd_nat, hn, hmm, wrap64_in (by omega) (by omega), show (15 : Int) - (n : Int) = ((15 - n : Nat) : Int) from by omega, u64_in (by omega) (by omega), if_pos (by omega), if_pos (by omega), if_pos (by omega), if_pos (by omega), wrap64_in (by omega) (by omega), show (15 : Int) - (m : Int) = ((15 - m : Nat) : Int) from by omega, u64_in (by omega) (by omega), if_pos (by omega), rd_nat, rd_nat, codesL_get hi, codesL_get hj, codeOf_is hn (by omega), codeOf_is hmm (by omega), shl_fill c1 hn15, shl_fill c2 hm15, if_pos, wakes02_is k (by omega)]
    · rfl
    · rw [Nat.add_mul] at hlt
      have := Nat.two_pow_pos (15 - n)
      omega
theorem CanonRises : wherrylaw02_CanonRises.Pure := by
  intro l a1 a2 _ _ _ _ _
  refine ⟨100, ?_⟩
  unfold wherrylaw02_CanonRises.f
  have done : wherrylaw02_CanonRises.j0 100 l a1 a2 true = some true := by simp only [wherrylaw02_CanonRises.j0]; rw [if_pos trivial]
  by_cases h0 : (l.length : Int) > 300
  · rw [if_pos h0]; exact done
  rw [if_neg h0]
  by_cases h1 : l.length = 0
  · rw [beq_iff_eq.2 (by omega)]; exact done
  rw [beq_eq_false_iff_ne.2 (by omega)]
  simp only [wherrylaw02_CanonRises.j0]
  rw [if_neg (by decide)]
  obtain ⟨e, he, _⟩ := check_some l
  by_cases h2 : e = 0
  · subst h2
    have hm := makes_of he
    rw [codes_yes he, Option.bind_some, if_pos rfl]
    dsimp only
    rw [codesL_length, bne_self_eq_false]
    simp only [wherrylaw02_CanonRises.j1]
    obtain ⟨i, hi, ei⟩ := place_of a1 l.length (by omega) (by omega)
    obtain ⟨j, hj, ej⟩ := place_of a2 l.length (by omega) (by omega)
    rw [ei, ej, if_neg (by decide), if_neg (by rw [u64_in (by omega) (by omega)]; omega), if_pos (by omega), if_pos (by omega), rd_nat, rd_nat]
    have hi0 := hm.bounds _ (getD_mem hi)
    have hj0 := hm.bounds _ (getD_mem hj)
    by_cases c1 : l.getD i 0 = 0
    · rw [if_pos c1]; exact rises_j2 hm hi hj _ (by decide) _ (fun h => by cases h)
    · rw [if_neg c1, if_pos (by omega), if_pos (by omega)]
      by_cases c2 : l.getD j 0 = 0
      · rw [if_pos c2]; exact rises_j2 hm hi hj _ (by decide) _ (fun h => by cases h)
      · rw [if_neg c2]
        exact rises_j2 hm hi hj _ (by decide) _ (fun h => by have := of_decide_eq_false h; omega)
  · rw [codes_no he h2, Option.bind_some, if_neg h2]
    simp only [wherrylaw02_CanonRises.j1]
    rw [if_pos trivial, if_neg h2, wakes02_is 98 (by decide)]
    rfl
end Go.Proofs.Ytcmpeffaikjemaa.Pure
