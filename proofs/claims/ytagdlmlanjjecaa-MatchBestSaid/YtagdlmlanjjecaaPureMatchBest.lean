/- MatchBest holds: the best piece stands ahead as it is here, none is longer, none as long is nearer; at all lists of bytes and all two ints. No condition. -/
import Derived.Test.YtagdlmlanjjecaaMatch
import Derived.Test.YtagdlmlanjjecaaPx4
import Derived.Test.YtagdlmlanjjecaaPx5
import Derived.Test.YtagdlmlanjjecaaPx15
namespace Go.Proofs.Ytagdlmlanjjecaa.Pure
open Go.RowKit Go.Proofs.Ytagdlmlanjjecaa.P Go.Proofs.YtagdlmlanjjecaaW.PrintWords Go.Proofs.YtagdlmlanjjecaaW.PrintLast Go.Proofs.YtagdlmlanjjecaaW.PrintMore
set_option linter.unusedVariables false
set_option linter.unusedSimpArgs false
theorem best_tail (l : List Int) (hl : l.length ≤ 1200) (i n d : Nat) (a2 : Int) (hb : IsBest l i n d) (hi : i < l.length) (k : Nat) (hk : 300 ≤ k) : wherrylaw04_MatchBest.j1 (k + 1) l (i : Int) a2 (n : Int) (d : Int) = some true := by
  obtain ⟨h1, h2⟩ := hb
  rw [wherrylaw04_MatchBest.j1]
  by_cases h0 : i = 0
  · rw [if_pos (by omega), if_pos (by omega)]; rfl
  · rw [if_neg (by omega), u64_in (a := (i : Int)) (by omega) (by omega), if_neg (by omega)]
    obtain ⟨o, ho, eo⟩ := tmod_u64 a2 (i : Int) (by omega) (by omega)
    rw [eo, wi (by omega) (by omega), show (1 : Int) + (o : Int) = ((o + 1 : Nat) : Int) from by omega, same_is l i (o + 1) (by omega) (by omega) (by omega) (by omega) k hk, Option.bind_some]
    rcases h2 (o + 1) (by omega) (by omega) (by omega) with h | h | ⟨h, h'⟩
    · rw [if_pos (by omega)]; rfl
    · by_cases h3 : com l (i - (o + 1)) i < 3
      · rw [if_pos (by omega)]; rfl
      · rw [if_neg (by omega), if_pos (by omega)]; rfl
    · by_cases h3 : com l (i - (o + 1)) i < 3
      · rw [if_pos (by omega)]; rfl
      · rw [if_neg (by omega), if_neg (by omega), if_pos (by omega), if_pos (by omega)]; rfl
theorem MatchBest : wherrylaw04_MatchBest.Pure := by
  intro l a1 a2 _ _ hw _ _
  refine ⟨1000, ?_⟩
  unfold wherrylaw04_MatchBest.f
  by_cases h : (l.length : Int) > 1200
  · rw [if_pos h]; rfl
  · rw [if_neg h]
    by_cases h0 : l.length = 0
    · rw [h0]; rfl
    · rw [beq_eq_false_iff_ne.2 (by omega), show 1000 = 998 + 1 + 1 from rfl, wherrylaw04_MatchBest.j0, if_neg (by decide), u64_in (a := (l.length : Int)) (by omega) (by omega), if_neg (by omega)]
      obtain ⟨i, hi, ei⟩ := tmod_u64 a1 (l.length : Int) (by omega) (by omega)
      rw [ei, best_is hw (by omega) i (by omega), Option.bind_some]
      dsimp only
      have hb := bestL_is l i (by omega)
      generalize (bestL (noted l i) l i).1 = n at *
      generalize (bestL (noted l i) l i).2 = d at *
      have ht := best_tail l (by omega) i n d a2 hb (by omega) 998 (by omega)
      rcases hb.1 with ⟨e1, e2⟩ | ⟨b1, b2, b3, b4, b5, b6, b7⟩
      · rw [if_pos (by omega), if_pos (by omega)]; exact ht
      · rw [if_neg (by omega), if_neg (by omega), if_neg (by omega), if_neg (by omega), if_neg (by omega), if_neg (by omega), wi (by omega) (by omega), if_neg (by omega), same_is l i d b3 b4 (by omega) (by omega) _ (by omega), Option.bind_some, if_neg (by omega)]
        exact ht
end Go.Proofs.Ytagdlmlanjjecaa.Pure
