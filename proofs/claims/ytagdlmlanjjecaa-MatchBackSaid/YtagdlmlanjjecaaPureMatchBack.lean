/- MatchBack holds: a text's tokens are a right row and stand for the text; at all lists of bytes. No condition. -/
import Derived.Test.YtagdlmlanjjecaaMatch
import Derived.Test.YtagdlmlanjjecaaPx0
import Derived.Test.YtagdlmlanjjecaaPx6
import Derived.Test.YtagdlmlanjjecaaPx13
namespace Go.Proofs.Ytagdlmlanjjecaa.Pure
open Go.RowKit Go.Proofs.Ytagdlmlanjjecaa.P Go.Proofs.YtagdlmlanjjecaaW.PrintWords Go.Proofs.YtagdlmlanjjecaaW.PrintLast Go.Proofs.YtagdlmlanjjecaaW.PrintMore
set_option linter.unusedVariables false
set_option linter.unusedSimpArgs false
theorem MatchBack : wherrylaw04_MatchBack.Pure := by
  intro l _ _ hw
  refine ⟨10000, ?_⟩
  unfold wherrylaw04_MatchBack.f
  by_cases h : (l.length : Int) > 1200
  · rw [if_pos h]
  · rw [if_neg h, tokens_is hw (by omega), Option.bind_some]
    dsimp only
    obtain ⟨h1, h2, h3⟩ := toks_right l l.length 0 (by omega) (by omega)
    generalize toks l l.length 0 = ts at *
    rw [Nat.zero_add] at h3
    rw [List.take_zero] at h2
    have hle := sizeL_ge h1
    rw [if_pos rfl, check_is ts (by omega) h1 (by omega) 10000 (by omega), Option.bind_some]
    obtain ⟨k, hk⟩ : ∃ k, 10000 = (k + ts.length + 1) + 1 ∧ 6000 ≤ k := ⟨10000 - ts.length - 2, by omega, by omega⟩
    rw [hk.1, wherrylaw04_MatchBack.j0, if_neg (by decide), expand_is ts (by omega) h1 (by omega) _ (by omega), Option.bind_some]
    dsimp only
    have hb := back_loop l (exT ts []) ts (by omega) ts [] 0 k rfl h1 (by omega)
    rw [show ((0 : Nat) : Int) = 0 from rfl, show ((([] : List S40).length : Nat) : Int) = 0 from rfl] at hb
    rw [hb, h2, keepBytes_is l l (by omega) k (by omega), Option.bind_some, if_pos (by simp), Nat.zero_add, if_pos (by omega)]
end Go.Proofs.Ytagdlmlanjjecaa.Pure
