/- CanonWhole holds: where lengths weigh just as much as may be any 15 bits begin with a code, and a length more makes none; at all lists of ints, bytes and every int. No condition. -/
import Derived.Test.YtcmpeffaikjemaaCanonG
import Derived.Test.YtcmpeffaikjemaaPx2
import Derived.Test.YtcmpeffaikjemaaPx4
import Derived.Test.YtcmpeffaikjemaaPx5
import Derived.Test.YtcmpeffaikjemaaPx9
import Derived.Test.YtcmpeffaikjemaaPx10
import Derived.Test.YtcmpeffaikjemaaPx12
import Derived.Test.YtcmpeffaikjemaaPx16
namespace Go.Proofs.Ytcmpeffaikjemaa.Pure
open Go.RowKit Go.Proofs.Ytcmpeffaikjemaa.P Go.Proofs.Ytcmpeffaikjemaa.Glue Go.Proofs.YtcmpeffaikjemaaW.PrintWords Go.Proofs.YtcmpeffaikjemaaW.PrintLast Go.Proofs.YtcmpeffaikjemaaW.PrintMore
open WP (Bytes val)

theorem getD_front (l : List Int) (v : Int) {i : Nat} (hi : i < l.length) : (l ++ [v]).getD i 0 = l.getD i 0 := by
  rw [List.getD_eq_getElem?_getD, List.getD_eq_getElem?_getD, List.getElem?_append_left hi]
theorem symsTo_front (l : List Int) (v : Int) (n : Nat) : ∀ i, i ≤ l.length → symsTo (l ++ [v]) i n = symsTo l i n
  | 0, _ => rfl
  | i + 1, h => by rw [symsTo_step, symsTo_step, symsTo_front l v n i (by omega), getD_front l v (by omega)]
theorem cnt_snoc (l : List Int) (v n : Nat) : cnt (l ++ [(v : Int)]) n = cnt l n + if n = v ∧ 0 < v then 1 else 0 := by
  unfold cnt
  rw [List.length_append, List.length_singleton, symsTo_step, symsTo_front l _ n _ (Nat.le_refl _), List.length_append]
  congr 1
  have : (l ++ [(v : Int)]).getD l.length 0 = (v : Int) := by simp
  rw [this]
  by_cases h : n = v ∧ 0 < v
  · rw [if_pos h, if_pos (by omega)]; rfl
  · rw [if_neg h, if_neg (by omega)]; rfl
theorem weigh_add (c : Nat → Nat) (v : Nat) (h0 : 0 < v) : ∀ N, weighTo (fun n => c n + if n = v ∧ 0 < v then 1 else 0) N = weighTo c N + if v ≤ N then 2 ^ (15 - v) else 0
  | 0 => by rw [if_neg (by omega)]; rfl
  | N + 1 => by
    simp only [weighTo]
    rw [weigh_add c v h0 N, Nat.add_mul]
    by_cases h1 : v ≤ N
    · rw [if_pos h1, if_neg (show ¬ (N + 1 = v ∧ 0 < v) by omega), if_pos (show v ≤ N + 1 by omega)]; omega
    · rw [if_neg h1]
      by_cases h2 : N + 1 = v
      · rw [if_pos ⟨h2, h0⟩, if_pos (show v ≤ N + 1 by omega), h2]; omega
      · rw [if_neg (show ¬ (N + 1 = v ∧ 0 < v) by omega), if_neg (show ¬ v ≤ N + 1 by omega)]; omega
theorem all_add (c : Nat → Nat) (v : Nat) (h0 : 0 < v) : ∀ N, allTo (fun n => c n + if n = v ∧ 0 < v then 1 else 0) N = allTo c N + if v ≤ N then 1 else 0
  | 0 => by rw [if_neg (by omega)]; rfl
  | N + 1 => by
    simp only [allTo]
    rw [all_add c v h0 N]
    by_cases h1 : v ≤ N
    · rw [if_pos h1, if_neg (show ¬ (N + 1 = v ∧ 0 < v) by omega), if_pos (show v ≤ N + 1 by omega)]; omega
    · rw [if_neg h1]
      by_cases h2 : N + 1 = v
      · rw [if_pos ⟨h2, h0⟩, if_pos (show v ≤ N + 1 by omega)]; omega
      · rw [if_neg (show ¬ (N + 1 = v ∧ 0 < v) by omega), if_neg (show ¬ v ≤ N + 1 by omega)]; omega
theorem right_snoc {l : List Int} (hr : rightB l = true) (hl : l.length < 300) (v : Int) : rightB (l ++ [v]) = decide (0 ≤ v ∧ v ≤ 15) := by
  obtain ⟨h1, h2⟩ := (rightB_iff l).1 hr
  rw [Bool.eq_iff_iff, rightB_iff, decide_eq_true_iff]
  constructor
  · intro ⟨_, h⟩; exact h v (by simp)
  · intro h
    refine ⟨by simp; omega, fun x hx => ?_⟩
    rcases List.mem_append.1 hx with hx | hx
    · exact h2 x hx
    · rw [List.mem_singleton.1 hx]; exact h
theorem check_more {l : List Int} (hc : canon_Check.f l = some 0) (hw : cW l = 32768) (hl : l.length < 300) {v : Nat} (h0 : 0 < v) (h15 : v ≤ 15) : canon_Check.f (l ++ [(v : Int)]) = some 4 := by
  obtain ⟨h1, h2⟩ := (check_iff l).1 hc
  have e : (fun n => (symsTo (l ++ [(v : Int)]) (l ++ [(v : Int)]).length n).length) = fun n => cnt l n + if n = v ∧ 0 < v then 1 else 0 := funext (cnt_snoc l v)
  have e1 : cW (l ++ [(v : Int)]) = cW l + 2 ^ (15 - v) := by
    unfold cW
    rw [e, weigh_add _ v h0, if_pos h15]
    rfl
  have e2 : cA (l ++ [(v : Int)]) = cA l + 1 := by
    unfold cA
    rw [e, all_add _ v h0, if_pos h15]
    rfl
  have h3 := weigh_all (cnt l) 15
  have e3 : cW l = weighTo (cnt l) 15 := rfl
  have e4 : cA l = allTo (cnt l) 15 := rfl
  have hp := Nat.two_pow_pos (15 - v)
  unfold canon_Check.f makesB
  rw [right_snoc h1 hl, decide_eq_true (by omega), if_pos rfl, e1, e2, beq_eq_false_iff_ne.2 (by omega), beq_eq_false_iff_ne.2 (by omega), beq_eq_false_iff_ne.2 (by omega : cA l + 1 ≠ 1)]
  rfl
theorem check_nought {l : List Int} (hc : canon_Check.f l = some 0) (hl : l.length < 300) : canon_Check.f (l ++ [0]) = some 0 := by
  obtain ⟨h1, h2⟩ := (check_iff l).1 hc
  have e : (fun n => (symsTo (l ++ [0]) (l ++ [0]).length n).length) = fun n => (symsTo l l.length n).length := by
    funext n
    have := cnt_snoc l 0 n
    rw [if_neg (by omega)] at this
    exact this
  have e1 : cW (l ++ [0]) = cW l := by unfold cW; rw [e]
  have e2 : cA (l ++ [0]) = cA l := by unfold cA; rw [e]
  have e3 : (symsTo (l ++ [0]) (l ++ [0]).length 1).length = (symsTo l l.length 1).length := congrFun e 1
  rw [check_iff]
  refine ⟨by rw [right_snoc h1 hl]; decide, ?_⟩
  unfold makesB at *
  rw [e1, e2, e3]
  exact h2
theorem check_sixteen {l : List Int} (hc : canon_Check.f l = some 0) (hl : l.length < 300) : canon_Check.f (l ++ [16]) = some 1 := by
  obtain ⟨h1, h2⟩ := (check_iff l).1 hc
  unfold canon_Check.f
  rw [right_snoc h1 hl]
  rfl
theorem read_whole {l b : List Int} (hc : canon_Check.f l = some 0) (hw : cW l = 32768) (hb : Bytes b) (h2 : 2 ≤ b.length) (h100 : b.length ≤ 100) : ∃ s p, canon_Read.f l b 0 = some (s, p, 0) := by
  have hm := makes_of hc
  rcases next_either l b 0 15 with h | ⟨m, r, h15, hr, hcn, _⟩
  · have h1 := h 15 (Nat.le_refl _)
    have h3 := rdv_lt (val b) 0 15
    have h4 := weigh_up (cnt l) 15 (Nat.le_refl _)
    have e : cW l = weighTo (cnt l) 15 := rfl
    omega
  · have hn := next_found hm hb (by omega) h15 (a := 0) (by omega) hr hcn
    have hn2 : nextF (fun n => (openF l n : Int)) (symsTo l l.length) b 15 1 (0 : Int) (0 : Int) = some ((symsTo l l.length (m + 1)).getD r 0, ((0 + (m + 1) : Nat) : Int), true) := hn
    refine ⟨(symsTo l l.length (m + 1)).getD r 0, ((0 + (m + 1) : Nat) : Int), ?_⟩
    · unfold canon_Read.f
      rw [hc, Option.bind_some, if_pos rfl, if_neg (by rw [wrap64_in (by omega) (by omega)]; omega), hn2, Option.bind_some]
      rfl
theorem whole_j1 {l : List Int} (hc : canon_Check.f l = some 0) (hw : cW l = 32768) (hl : l.length ≤ 290) (a2 : Int) (k : Nat) (hk : 50 ≤ k) : wherrylaw02_CanonWhole.j1 k l a2 = some true := by
  obtain ⟨k, rfl⟩ : ∃ m, k = m + 1 := ⟨k - 1, by omega⟩
  obtain ⟨n, hn, en⟩ := tmod_u64 a2 15 (by decide) (by decide)
  simp only [wherrylaw02_CanonWhole.j1]
  rw [twinInts_is l (by omega), Option.bind_some, if_pos (by omega), en, wrap64_in (by omega) (by omega), show (1 : Int) + (n : Int) = ((n + 1 : Nat) : Int) from by omega, check_more hc hw (by omega) (by omega) (by omega), Option.bind_some, if_pos rfl, Option.bind_some, if_pos (by omega), check_sixteen hc (by omega), Option.bind_some, if_pos rfl, wakes02_is k (by omega)]
  rfl
theorem CanonWhole : wherrylaw02_CanonWhole.Pure := by
  intro l b a2 _ _ _ _ _ hb _
  refine ⟨100, ?_⟩
  unfold wherrylaw02_CanonWhole.f
  have done : wherrylaw02_CanonWhole.j0 100 l b a2 true = some true := by simp only [wherrylaw02_CanonWhole.j0]; rw [if_pos trivial]
  by_cases h0 : (l.length : Int) > 290
  · rw [if_pos h0]; exact done
  rw [if_neg h0]
  by_cases h1 : (b.length : Int) > 100
  · rw [decide_eq_true h1]; exact done
  rw [decide_eq_false h1]
  simp only [wherrylaw02_CanonWhole.j0]
  rw [if_neg (by decide)]
  obtain ⟨e, he, _⟩ := check_some l
  rw [he, Option.bind_some]
  by_cases h2 : e = 0
  · subst h2
    rw [if_pos rfl]
    have hr := (check_iff l).1 he
    unfold canon_Weigh.f
    rw [hr.1, if_pos rfl, Option.bind_some]
    by_cases hw : cW l = 32768
    · rw [if_pos (by omega)]
      by_cases h3 : (b.length : Int) ≥ 2
      · obtain ⟨s, p, hrd⟩ := read_whole he hw (bytes_of hb) (by omega) (by omega)
        rw [if_pos h3, hrd, Option.bind_some]
        dsimp only
        rw [if_pos rfl]
        exact whole_j1 he hw (by omega) a2 99 (by decide)
      · rw [if_neg h3]
        exact whole_j1 he hw (by omega) a2 99 (by decide)
    · rw [if_neg (by omega), twinInts_is l (by omega), Option.bind_some, if_pos (by omega), codes_yes (check_nought he (by omega)), Option.bind_some]
      dsimp only
      rw [if_pos rfl, wakes02_is 99 (by decide)]
      rfl
  · rw [if_neg h2, wakes02_is 99 (by decide)]
    rfl
end Go.Proofs.Ytcmpeffaikjemaa.Pure
