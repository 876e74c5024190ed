/- What the small functions of the laws on trees answer; used by the claims of this seat. -/
import Derived.Test.YtaoeghdpmmeaiaaCanonG
import Derived.Test.YtaoeghdpmmeaiaaPx3
import Derived.Test.YtaoeghdpmmeaiaaPx4
import Derived.Test.YtaoeghdpmmeaiaaPx14
namespace Go.Proofs.Ytaoeghdpmmeaiaa.Glue
open Go.RowKit Go.Proofs.Ytaoeghdpmmeaiaa.P Go.Proofs.YtaoeghdpmmeaiaaW.PrintWords Go.Proofs.YtaoeghdpmmeaiaaW.PrintLast Go.Proofs.YtaoeghdpmmeaiaaW.PrintMore

theorem wakes03_is (k : Nat) (hk : 40 ≤ k) : wherrylaw03_wakes.f k = some true := at_rounds wherrylaw03_wakes.mono hk (by decide +kernel)
theorem costOf_append : ∀ (a b c d : List Int), a.length = b.length → costOf (a ++ c) (b ++ d) = costOf a b + costOf c d
  | [], [], c, d, _ => by simp [costOf]
  | x :: xs, y :: ys, c, d, h => by
    simp only [List.cons_append, costOf]
    rw [costOf_append xs ys c d (by simpa using h)]
    omega
theorem cost_ok {w l : List Int} {a : Int} (h : tree_Cost.f w l = some (a, 0)) : w.length = l.length ∧ weighs w = true ∧ l.any badLen = false ∧ a = costOf w l := by
  unfold tree_Cost.f at h
  by_cases h1 : w.length ≠ l.length
  · rw [if_pos h1] at h; simp at h
  · rw [if_neg h1] at h
    by_cases h2 : weighs w = true ∧ l.any badLen = false
    · rw [if_pos h2] at h
      simp at h
      exact ⟨by omega, h2.1, h2.2, h.symm⟩
    · rw [if_neg h2] at h; simp at h
theorem cost_some (w l : List Int) : ∃ a e, tree_Cost.f w l = some (a, e) ∧ (e = 0 ∨ a = 0) := by
  unfold tree_Cost.f
  by_cases h1 : w.length ≠ l.length
  · exact ⟨0, 2, by rw [if_pos h1], Or.inr rfl⟩
  · by_cases h2 : weighs w = true ∧ l.any badLen = false
    · exact ⟨_, 0, by rw [if_neg h1, if_pos h2], Or.inl rfl⟩
    · exact ⟨0, 1, by rw [if_neg h1, if_neg h2], Or.inr rfl⟩
theorem cost_is {w l : List Int} (h1 : w.length = l.length) (h2 : weighs w = true) (h3 : l.any badLen = false) : tree_Cost.f w l = some (costOf w l, 0) := by
  unfold tree_Cost.f
  rw [if_neg (by omega), if_pos ⟨h2, h3⟩]
end Go.Proofs.Ytaoeghdpmmeaiaa.Glue
