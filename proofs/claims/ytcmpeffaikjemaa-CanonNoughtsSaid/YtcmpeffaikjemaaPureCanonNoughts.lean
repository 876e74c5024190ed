/- CanonNoughts holds: symbols without a code among the others change no code, and the weight stays; at all lists of ints and every int. No condition. -/
import Derived.Test.YtcmpeffaikjemaaCanonG
import Derived.Test.YtcmpeffaikjemaaPx2
import Derived.Test.YtcmpeffaikjemaaPx5
import Derived.Test.YtcmpeffaikjemaaPx6
import Derived.Test.YtcmpeffaikjemaaPx12
import Derived.Test.YtcmpeffaikjemaaPx18
namespace Go.Proofs.Ytcmpeffaikjemaa.Pure
open Go.RowKit Go.Proofs.Ytcmpeffaikjemaa.P Go.Proofs.Ytcmpeffaikjemaa.Glue Go.Proofs.YtcmpeffaikjemaaW.PrintWords Go.Proofs.YtcmpeffaikjemaaW.PrintLast Go.Proofs.YtcmpeffaikjemaaW.PrintMore

/-- A row with a nought laid in. -/
def withNought (l : List Int) (p : Nat) : List Int := l.take p ++ 0 :: l.drop p
section
variable {l : List Int} {p : Nat}
theorem wn_length (hp : p ≤ l.length) : (withNought l p).length = l.length + 1 := by unfold withNought; simp; omega
theorem wn_before (hp : p ≤ l.length) {i : Nat} (hi : i < p) : (withNought l p).getD i 0 = l.getD i 0 := by
  unfold withNought
  rw [List.getD_eq_getElem?_getD, List.getD_eq_getElem?_getD, List.getElem?_append_left (by rw [List.length_take]; omega), List.getElem?_take_of_lt hi]
theorem wn_at (hp : p ≤ l.length) : (withNought l p).getD p 0 = 0 := by
  unfold withNought
  rw [List.getD_eq_getElem?_getD, List.getElem?_append_right (by rw [List.length_take]; omega), List.length_take, Nat.min_eq_left hp, Nat.sub_self]
  rfl
theorem wn_behind (hp : p ≤ l.length) {i : Nat} (hi : p ≤ i) : (withNought l p).getD (i + 1) 0 = l.getD i 0 := by
  unfold withNought
  rw [List.getD_eq_getElem?_getD, List.getD_eq_getElem?_getD, List.getElem?_append_right (by rw [List.length_take]; omega), List.length_take, Nat.min_eq_left hp, show i + 1 - p = (i - p) + 1 from by omega, List.getElem?_cons_succ, List.getElem?_drop, show p + (i - p) = i from by omega]
theorem rank_step (l : List Int) (i n : Nat) : (symsTo l (i + 1) n).length = (symsTo l i n).length + if l.getD i 0 = (n : Int) ∧ 0 < n then 1 else 0 := by
  rw [symsTo_step, List.length_append]
  congr 1
  split <;> rfl
theorem rank_before (hp : p ≤ l.length) (n : Nat) : ∀ i, i ≤ p → (symsTo (withNought l p) i n).length = (symsTo l i n).length
  | 0, _ => rfl
  | i + 1, h => by rw [rank_step, rank_step, rank_before hp n i (by omega), wn_before hp (by omega)]
theorem rank_behind (hp : p ≤ l.length) (n : Nat) : ∀ d, (symsTo (withNought l p) (p + d + 1) n).length = (symsTo l (p + d) n).length
  | 0 => by rw [Nat.add_zero, rank_step, rank_before hp n p (Nat.le_refl _), wn_at hp, if_neg (by omega)]; rfl
  | d + 1 => by rw [rank_step, show p + (d + 1) = p + d + 1 from rfl, rank_behind hp n d, rank_step l, wn_behind hp (by omega)]
theorem wn_cnt (hp : p ≤ l.length) : (fun n => (symsTo (withNought l p) (withNought l p).length n).length) = fun n => (symsTo l l.length n).length := by
  funext n
  have := rank_behind hp n (l.length - p)
  rw [show p + (l.length - p) = l.length from by omega] at this
  rw [wn_length hp, this]
theorem wn_right (hp : p ≤ l.length) (h : l.length ≤ 290) : rightB (withNought l p) = rightB l := by
  rw [Bool.eq_iff_iff, rightB_iff, rightB_iff, wn_length hp]
  refine and_congr (by omega) ⟨fun hx x hm => hx x ?_, fun hx x hm => ?_⟩
  · unfold withNought
    rw [← List.take_append_drop p l] at hm
    rcases List.mem_append.1 hm with h | h
    · exact List.mem_append_left _ h
    · exact List.mem_append_right _ (List.mem_cons_of_mem _ h)
  · unfold withNought at hm
    rcases List.mem_append.1 hm with h | h
    · exact hx x (List.mem_of_mem_take h)
    · rcases List.mem_cons.1 h with rfl | h
      · decide
      · exact hx x (List.mem_of_mem_drop h)
theorem wn_check (hp : p ≤ l.length) (h : l.length ≤ 290) : canon_Check.f (withNought l p) = canon_Check.f l ∧ canon_Weigh.f (withNought l p) = canon_Weigh.f l := by
  have e := wn_cnt hp
  have e1 : cW (withNought l p) = cW l := by unfold cW; rw [e]
  have e2 : cA (withNought l p) = cA l := by unfold cA; rw [e]
  have e3 : (symsTo (withNought l p) (withNought l p).length 1).length = (symsTo l l.length 1).length := congrFun e 1
  have e4 : makesB (withNought l p) = makesB l := by unfold makesB; rw [e1, e2, e3]
  unfold canon_Check.f canon_Weigh.f
  rw [wn_right hp h, e1, e4]
  exact ⟨rfl, rfl⟩
theorem wn_first (hp : p ≤ l.length) (n : Nat) : openF (withNought l p) n = openF l n := by unfold openF; rw [wn_cnt hp]
theorem wn_codes (hp : p ≤ l.length) : codesL (withNought l p) = (codesL l).take p ++ 0 :: (codesL l).drop p := by
  have hl := codesL_length l
  apply List.ext_getElem?
  intro i
  unfold codesL
  rw [wn_length hp, List.getElem?_map]
  rcases Nat.lt_trichotomy i p with h | h | h
  · rw [List.getElem?_range (by omega), List.getElem?_append_left (by simp; omega), List.getElem?_take_of_lt h, List.getElem?_map, List.getElem?_range (by omega)]
    simp only [Option.map_some, Option.some.injEq]
    unfold codeOf
    rw [wn_before hp h, wn_first hp, rank_before hp _ i (by omega)]
  · subst h
    rw [List.getElem?_range (by omega), List.getElem?_append_right (by simp; omega)]
    simp only [List.length_take, List.length_map, List.length_range, Option.map_some]
    rw [Nat.min_eq_left hp, Nat.sub_self]
    have : codeOf (withNought l i) i = 0 := codeOf_none (wn_at hp)
    rw [this]
    rfl
  · obtain ⟨j, rfl⟩ : ∃ j, i = j + 1 := ⟨i - 1, by omega⟩
    rw [List.getElem?_append_right (by simp; omega)]
    simp only [List.length_take, List.length_map, List.length_range]
    rw [Nat.min_eq_left hp, show j + 1 - p = (j - p) + 1 from by omega, List.getElem?_cons_succ, List.getElem?_drop, show p + (j - p) = j from by omega, List.getElem?_map]
    by_cases hj : j < l.length
    · rw [List.getElem?_range (by omega), List.getElem?_range hj]
      simp only [Option.map_some, Option.some.injEq]
      unfold codeOf
      rw [wn_behind hp (by omega), wn_first hp]
      have := rank_behind hp (l.getD j 0).toNat (j - p)
      rw [show p + (j - p) = j from by omega] at this
      rw [this]
    · rw [List.getElem?_eq_none (by simp; omega), List.getElem?_eq_none (by simp; omega)]
      rfl
end
theorem CanonNoughts : wherrylaw02_CanonNoughts.Pure := by
  intro l a1 _ _ _ _
  refine ⟨400, ?_⟩
  unfold wherrylaw02_CanonNoughts.f
  by_cases h0 : (l.length : Int) > 290
  · rw [if_pos h0]
  rw [if_neg h0, wrap64_in (a := (l.length : Int) + 1) (by omega) (by omega), show (l.length : Int) + 1 = ((l.length + 1 : Nat) : Int) from by omega]
  obtain ⟨p, hp, ep⟩ := place_of a1 (l.length + 1) (by omega) (by omega)
  rw [ep, if_neg (by rw [u64_in (by omega) (by omega)]; omega), if_pos (by omega), if_pos (by omega), Int.toNat_natCast]
  have hp' : p ≤ l.length := by omega
  have hwn : ([] ++ l.take p ++ [0]) ++ l.drop p = withNought l p := by unfold withNought; simp
  rw [if_pos (by simp; omega), Option.bind_some, Option.bind_some, if_pos (by simp; omega), Option.bind_some, if_pos (by simp; omega), Option.bind_some, hwn]
  obtain ⟨e, he, _⟩ := check_some l
  obtain ⟨k1, k2⟩ := wn_check hp' (by omega : l.length ≤ 290)
  have hlen := codesL_length l
  by_cases h2 : e = 0
  · subst h2
    rw [codes_yes he, codes_yes (k1.trans he), Option.bind_some, Option.bind_some]
    dsimp only
    rw [if_pos rfl, k2]
    unfold canon_Weigh.f
    rw [Option.bind_some, Option.bind_some, if_pos rfl, k1, he, Option.bind_some, Option.bind_some, bne_self_eq_false]
    simp only [wherrylaw02_CanonNoughts.j0]
    have hl2 : (codesL (withNought l p)).length = l.length + 1 := by rw [codesL_length, wn_length hp']
    have hz : (codesL (withNought l p)).getD p 0 = 0 := by rw [codesL_get (by rw [wn_length hp']; omega)]; exact codeOf_none (wn_at hp')
    rw [if_neg (by decide), if_pos trivial, hl2, hlen, wrap64_in (by omega) (by omega), if_pos (by omega), if_pos (by omega), if_pos (by omega), rd_nat, hz, bne_self_eq_false]
    simp only [wherrylaw02_CanonNoughts.j1]
    rw [if_neg (by decide), if_pos (by omega), hl2, if_pos (by omega), Int.toNat_natCast, twinInts_is _ (by simp; omega), Option.bind_some, wrap64_in (by omega) (by omega), if_pos (by omega), if_pos (by omega), Option.bind_some, show ((p : Int) + 1).toNat = p + 1 from by omega]
    have e3 : (codesL (withNought l p)).take p ++ (codesL (withNought l p)).drop (p + 1) = codesL l := by
      rw [wn_codes hp', List.take_left' (by simp; omega)]
      have : ((codesL l).take p ++ 0 :: (codesL l).drop p).drop (p + 1) = (codesL l).drop p := by
        rw [show (codesL l).take p ++ 0 :: (codesL l).drop p = ((codesL l).take p ++ [0]) ++ (codesL l).drop p from by simp]
        exact List.drop_left' (by simp; omega)
      rw [this, List.take_append_drop]
    rw [if_pos (by simp; omega), e3, keepInts_is _ _ (by omega) _ (by omega), decide_eq_true rfl, Option.bind_some, if_pos rfl, wakes02_is _ (by decide)]
    rfl
  · rw [codes_no he h2, codes_no (k1.trans he) h2, Option.bind_some, Option.bind_some]
    dsimp only
    rw [if_pos rfl, k2]
    unfold canon_Weigh.f
    rw [Option.bind_some, Option.bind_some, if_pos rfl, k1, he, Option.bind_some, Option.bind_some, bne_self_eq_false]
    simp only [wherrylaw02_CanonNoughts.j0]
    rw [if_neg (by decide), if_neg h2, wakes02_is _ (by decide)]
    rfl
end Go.Proofs.Ytcmpeffaikjemaa.Pure
