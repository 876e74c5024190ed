/- MatchExpands holds: rows one behind the other stand for both texts; at all two lists of bytes. No condition. -/
import Derived.Test.YtagdlmlanjjecaaMatch
import Derived.Test.YtagdlmlanjjecaaMatchRef
import Derived.Test.YtagdlmlanjjecaaPx6
import Derived.Test.YtagdlmlanjjecaaPx22
namespace Go.Proofs.Ytagdlmlanjjecaa.Pure
open Go.RowKit Go.Proofs.Ytagdlmlanjjecaa.P Go.Proofs.YtagdlmlanjjecaaW.PrintWords Go.Proofs.YtagdlmlanjjecaaW.PrintLast Go.Proofs.YtagdlmlanjjecaaW.PrintMore
set_option linter.unusedVariables false
set_option linter.unusedSimpArgs false
theorem MatchExpands : wherrylaw04_MatchExpands.Pure := by
  intro a b _ _ hwa _ _ hwb
  have H : ∀ k, 800000 ≤ k → wherrylaw04_MatchExpands.f (k + 1) a b = some true := by
    intro k hk
    unfold wherrylaw04_MatchExpands.f
    by_cases h : (a.length : Int) > 1200
    · rw [if_pos h, wherrylaw04_MatchExpands.j0, if_pos rfl]
    · rw [if_neg h]
      by_cases h' : (b.length : Int) > 1200
      · rw [decide_eq_true h', wherrylaw04_MatchExpands.j0, if_pos rfl]
      · rw [decide_eq_false h', wherrylaw04_MatchExpands.j0, if_neg (by decide), toksOf_is a (by omega) k (by omega), Option.bind_some, toksOf_is b (by omega) k (by omega), Option.bind_some]
        obtain ⟨a1, a2, a3⟩ := toks_right a a.length 0 (by omega) (by omega)
        obtain ⟨b1, b2, b3⟩ := toks_right b b.length 0 (by omega) (by omega)
        generalize toks a a.length 0 = ta at *
        generalize toks b b.length 0 = tb at *
        rw [List.take_zero] at a2 b2
        have la := sizeL_ge a1
        have lb := sizeL_ge b1
        have hok : OkL (ta ++ tb) 0 := a1.append (b1.mono (by omega))
        have hsz : sizeL (ta ++ tb) ≤ 2400 := by rw [sizeL_append]; omega
        have hln : (ta ++ tb).length ≤ 2400 := by rw [List.length_append]; omega
        have hex : exT (ta ++ tb) [] = a ++ b := by
          rw [exT_append, a2]
          have := exT_shift a tb [] (by simpa using b1)
          rw [List.append_nil, b2] at this
          exact this
        rw [if_pos (by omega), Option.bind_some, expand_is (ta ++ tb) (by omega) hok (by omega) k (by omega), Option.bind_some]
        dsimp only
        rw [if_pos rfl, check_is (ta ++ tb) (by omega) hok (by omega) k (by omega), Option.bind_some, if_pos rfl, twin_is a (by omega), Option.bind_some, if_pos (by omega), hex, keepBytes_is _ _ (by rw [List.length_append]; omega) k (by rw [List.length_append]; omega), Option.bind_some, if_pos (by simp)]
        rfl
  exact ⟨800000 + 1, H 800000 (Nat.le_refl _)⟩
end Go.Proofs.Ytagdlmlanjjecaa.Pure
