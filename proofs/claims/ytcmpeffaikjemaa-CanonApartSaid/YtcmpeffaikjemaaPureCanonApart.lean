/- CanonApart holds: no code is the beginning of another one, codes of one length rise with their symbols; at all lists of ints and two ints. No condition. -/
import Derived.Test.YtcmpeffaikjemaaCanonG
import Derived.Test.YtcmpeffaikjemaaPx6
import Derived.Test.YtcmpeffaikjemaaPx23
namespace Go.Proofs.Ytcmpeffaikjemaa.Pure
open Go.RowKit Go.Proofs.Ytcmpeffaikjemaa.P Go.Proofs.Ytcmpeffaikjemaa.Glue Go.Proofs.YtcmpeffaikjemaaW.PrintWords Go.Proofs.YtcmpeffaikjemaaW.PrintLast Go.Proofs.YtcmpeffaikjemaaW.PrintMore

theorem apart_j2 {l : List Int} (hm : Makes l) {i j : Nat} (hi : i < l.length) (hj : j < l.length) (k : Nat) (hk : 50 ≤ k) (b : Bool) (hb : b = false → 0 < l.getD i 0 ∧ l.getD i 0 ≤ l.getD j 0 ∧ i ≠ j) :
    wherrylaw02_CanonApart.j2 k l (i : Int) (j : Int) (codesL l) b = some true := by
  obtain ⟨k, rfl⟩ : ∃ m, k = m + 1 := ⟨k - 1, by omega⟩
  simp only [wherrylaw02_CanonApart.j2]
  cases b with
  | true => rw [if_pos rfl, wakes02_is k (by omega)]; rfl
  | false =>
    obtain ⟨h1, h2, h3⟩ := hb rfl
    obtain ⟨n, hn, hn15⟩ := hm.at hi
    obtain ⟨m, hmm, hm15⟩ := hm.at hj
    have hlen := codesL_length l
    have hle := hm.len
    rw [if_neg (by decide), if_pos (by omega), if_pos (by omega), if_pos (by omega), if_pos (by omega), rd_nat, rd_nat, rd_nat, rd_nat, hn, hmm, codesL_get hi, codesL_get hj, codeOf_is hn (by omega), codeOf_is hmm (by omega)]
    by_cases he : n = m
    · subst he
      rw [if_pos rfl, if_pos (by omega), if_pos (by omega)]
      have hord : (codeN l i n < codeN l j n ↔ i < j) ∧ codeN l i n ≠ codeN l j n := by
        unfold codeN
        rcases Nat.lt_or_gt_of_ne h3 with h | h
        · have := symsTo_rank l h hn (by omega)
          exact ⟨⟨fun _ => h, fun _ => by omega⟩, by omega⟩
        · have := symsTo_rank l h hmm (by omega)
          exact ⟨⟨fun hh => by omega, fun hh => by omega⟩, by omega⟩
      rw [if_pos, if_neg (by have := hord.2; omega), wakes02_is k (by omega)]
      · rfl
      · rw [beq_iff_eq, decide_eq_decide]
        have := hord.1
        omega
    · have c2 := codeN_small hm hj hmm (by omega) hm15
      have hp : 2 ^ m ≤ 2 ^ 15 := Nat.pow_le_pow_right (by decide) hm15
      have hap := codes_apart (k := j) hi hn (by omega) (by omega : n < m) hm15
      rw [if_neg (by omega), if_pos (by omega), wrap64_in (by omega) (by omega), show (m : Int) - (n : Int) = ((m - n : Nat) : Int) from by omega, u64_in (by omega) (by omega), if_pos (by omega), if_pos (by omega), shr_nat (by simp [IntKind.bits]; omega), if_neg, wakes02_is k (by omega)]
      · rfl
      · generalize codeN l j m / 2 ^ (m - n) = q at hap ⊢
        omega
theorem CanonApart : wherrylaw02_CanonApart.Pure := by
  intro l a1 a2 _ _ _ _ _
  refine ⟨100, ?_⟩
  unfold wherrylaw02_CanonApart.f
  have done : wherrylaw02_CanonApart.j0 100 l a1 a2 true = some true := by simp only [wherrylaw02_CanonApart.j0]; rw [if_pos trivial]
  by_cases h0 : (l.length : Int) > 300
  · rw [if_pos h0]; exact done
  rw [if_neg h0]
  by_cases h1 : l.length = 0
  · rw [beq_iff_eq.2 (by omega)]; exact done
  rw [beq_eq_false_iff_ne.2 (by omega)]
  simp only [wherrylaw02_CanonApart.j0]
  rw [if_neg (by decide)]
  obtain ⟨e, he, hor⟩ := check_some l
  by_cases h2 : e = 0
  · subst h2
    have hm := makes_of he
    have hlen := codesL_length l
    rw [codes_yes he, Option.bind_some, if_pos rfl]
    dsimp only
    obtain ⟨i, hi, ei⟩ := place_of a1 l.length (by omega) (by omega)
    obtain ⟨j, hj, ej⟩ := place_of a2 l.length (by omega) (by omega)
    obtain ⟨n, hn, hn15⟩ := hm.at hi
    rw [ei, ej, if_pos (by omega), if_neg (by rw [u64_in (by omega) (by omega)]; omega), if_pos (by omega), if_pos (by omega), rd_nat, rd_nat, hn, codesL_get hi]
    have hj0 := hm.bounds _ (getD_mem hj)
    by_cases c1 : n = 0
    · subst c1
      rw [if_pos (by rfl), if_pos (by omega), codeOf_none hn, if_pos rfl, wakes02_is 99 (by decide)]
      rfl
    · have c2 := codeN_small hm hi hn (by omega) hn15
      rw [if_neg (by omega), if_pos (by omega), codeOf_is hn (by omega), if_neg (by omega), u64_in (by omega) (by omega), if_pos (by omega), shl_one (by omega), decide_eq_false (by omega)]
      simp only [wherrylaw02_CanonApart.j1]
      rw [if_neg (by decide)]
      by_cases c3 : i = j
      · rw [if_pos (by omega)]; exact apart_j2 hm hi hj _ (by decide) _ (fun h => by cases h)
      · rw [if_neg (by omega), if_pos (by omega), if_pos (by omega), rd_nat, rd_nat, hn]
        by_cases c4 : l.getD j 0 = 0
        · rw [if_pos c4]; exact apart_j2 hm hi hj _ (by decide) _ (fun h => by cases h)
        · rw [if_neg c4, if_pos (by omega), if_pos (by omega)]
          exact apart_j2 hm hi hj _ (by decide) _ (fun h => by have := of_decide_eq_false h; omega)
  · rw [codes_no he h2, Option.bind_some, if_neg h2, if_pos (by rfl)]
    dsimp only
    rcases hor with h | h | h
    · exact absurd h h2
    · subst h
      rw [if_pos rfl, wakes02_is 99 (by decide)]
      rfl
    · subst h
      rw [if_neg (by decide), if_pos rfl, wakes02_is 99 (by decide)]
      rfl
end Go.Proofs.Ytcmpeffaikjemaa.Pure
