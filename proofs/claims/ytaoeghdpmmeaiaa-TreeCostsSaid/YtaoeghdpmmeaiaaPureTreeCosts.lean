/- TreeCosts holds: what lengths cost is added up, of two rows one behind the other it is the sum; at all four lists of ints. No condition. -/
import Derived.Test.YtaoeghdpmmeaiaaTreeGlue
import Derived.Test.YtaoeghdpmmeaiaaPx3
import Derived.Test.YtaoeghdpmmeaiaaPx4
import Derived.Test.YtaoeghdpmmeaiaaPx14
import Derived.Test.YtaoeghdpmmeaiaaPx18
namespace Go.Proofs.Ytaoeghdpmmeaiaa.Pure
open Go.RowKit Go.Proofs.Ytaoeghdpmmeaiaa.P Go.Proofs.Ytaoeghdpmmeaiaa.Glue Go.Proofs.YtaoeghdpmmeaiaaW.PrintWords Go.Proofs.YtaoeghdpmmeaiaaW.PrintLast Go.Proofs.YtaoeghdpmmeaiaaW.PrintMore

theorem TreeCosts : wherrylaw03_TreeCosts.Pure := by
  intro l0 l1 l2 l3 m0 _ _ m1 _ _ m2 _ _ m3 _ _
  have out : ∀ k, 60 ≤ k → wherrylaw03_TreeCosts.j0 k l0 l1 l2 l3 true = some true := by
    intro k hk
    obtain ⟨k, rfl⟩ : ∃ m, k = m + 1 := ⟨k - 1, by omega⟩
    simp only [wherrylaw03_TreeCosts.j0]
    rw [if_pos trivial]
  refine ⟨100, ?_⟩
  unfold wherrylaw03_TreeCosts.f
  by_cases h0 : (l0.length : Int) > 100
  · rw [if_pos h0]; exact out _ (by omega)
  rw [if_neg h0]
  by_cases h2 : (l2.length : Int) > 100
  · rw [if_pos h2]; exact out _ (by omega)
  rw [if_neg h2]
  by_cases h1 : (l1.length : Int) > 100
  · rw [if_pos h1]; exact out _ (by omega)
  rw [if_neg h1]
  by_cases h3 : (l3.length : Int) > 100
  · rw [decide_eq_true h3]; exact out _ (by omega)
  rw [decide_eq_false h3]
  obtain ⟨a, e, hA, hA2⟩ := cost_some l0 l1
  obtain ⟨b, f, hB, hB2⟩ := cost_some l2 l3
  have hw : ∀ k, 40 ≤ k → ((wherrylaw03_wakes.f k).bind fun t => some t) = some true := by
    intro k hk
    rw [wakes03_is k hk]
    rfl
  rw [show (100 : Nat) = 98 + 2 from rfl]
  simp only [wherrylaw03_TreeCosts.j0]
  rw [if_neg (by decide), hA, hB]
  simp only [Option.bind_some]
  have bad : e ≠ 0 ∨ f ≠ 0 → wherrylaw03_TreeCosts.j1 (98 + 1) l0 l1 l2 l3 a e b f true = some true := by
    intro h
    simp only [wherrylaw03_TreeCosts.j1]
    rw [if_pos trivial]
    by_cases he : e = 0
    · rw [if_pos he]
      have hb : b = 0 := by omega
      rw [if_neg (show f ≠ 0 by omega), if_pos hb]
      exact hw 98 (by omega)
    · rw [if_neg he, if_pos (show a = 0 by omega)]
      by_cases hf : f = 0
      · rw [if_pos hf]
        exact hw 98 (by omega)
      · rw [if_neg hf, if_pos (show b = 0 by omega)]
        exact hw 98 (by omega)
  by_cases he : e = 0
  · by_cases hf : f = 0
    · subst he hf
      obtain ⟨e1, w1, b1, rfl⟩ := cost_ok hA
      obtain ⟨e2, w2, b2, rfl⟩ := cost_ok hB
      rw [if_pos (show (0:Int) = 0 from rfl)]
      have hne : ((0 : Int) != 0) = false := rfl
      rw [hne]
      simp only [wherrylaw03_TreeCosts.j1]
      rw [if_neg (by decide)]
      have t0 := twinInts_is l0 (by omega)
      have t1 := twinInts_is l1 (by omega)
      rw [t0, t1]
      simp only [Option.bind_some]
      rw [if_pos (by omega), if_pos (by omega)]
      obtain ⟨c1, c2⟩ := (weighs_iff l0).1 w1
      obtain ⟨c3, c4⟩ := (weighs_iff l2).1 w2
      have hsum : tree_Cost.f (l0 ++ l2) (l1 ++ l3) = some (costOf (l0 ++ l2) (l1 ++ l3), 0) := by
        refine cost_is (by rw [List.length_append, List.length_append]; omega) ((weighs_iff _).2 ⟨by rw [List.length_append]; omega, fun x hx => ?_⟩) (by rw [List.any_append, b1, b2]; rfl)
        rcases List.mem_append.1 hx with h | h
        · exact c2 x h
        · exact c4 x h
      have hlen : tree_Cost.f (l0 ++ [1]) l1 = some (0, 2) := by
        unfold tree_Cost.f
        rw [if_pos (by rw [List.length_append, List.length_singleton]; omega)]
      rw [hsum]
      simp only [Option.bind_some]
      rw [if_pos (by omega), hlen]
      simp only [Option.bind_some]
      have g1 := costOf_le l0 l1 c2 (any_bad b1)
      have g2 := costOf_le l2 l3 c4 (any_bad b2)
      have hwr : wrap64 (costOf l0 l1 + costOf l2 l3) = costOf l0 l1 + costOf l2 l3 := wrap64_in (by omega) (by omega)
      rw [if_pos (by trivial), if_pos (by rw [costOf_append _ _ _ _ e1, hwr]), if_pos (by trivial)]
      exact hw 98 (by omega)
    · rw [if_pos he, show (f != 0) = true from by simpa using hf]
      exact bad (Or.inr hf)
  · rw [if_neg he]
    exact bad (Or.inl he)

end Go.Proofs.Ytaoeghdpmmeaiaa.Pure
