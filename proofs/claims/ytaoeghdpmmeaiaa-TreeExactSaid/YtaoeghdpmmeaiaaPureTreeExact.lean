/- TreeExact holds: the lengths of any weights up to any limit, what they cost, or why not, are the reference's; at all lists of ints and every int. No condition. -/
import Derived.Test.YtaoeghdpmmeaiaaTreeRef2
import Derived.Test.YtaoeghdpmmeaiaaPx4
import Derived.Test.YtaoeghdpmmeaiaaPx12
import Derived.Test.YtaoeghdpmmeaiaaPx17
namespace Go.Proofs.Ytaoeghdpmmeaiaa.Pure
open Go.RowKit Go.Proofs.Ytaoeghdpmmeaiaa.P Go.Proofs.Ytaoeghdpmmeaiaa.Glue Go.Proofs.YtaoeghdpmmeaiaaW.PrintWords Go.Proofs.YtaoeghdpmmeaiaaW.PrintLast Go.Proofs.YtaoeghdpmmeaiaaW.PrintMore
set_option linter.unusedVariables false
set_option linter.unusedSimpArgs false

theorem lens_some (ws : List Int) (lim : Int) : ∃ x e, tree_Lengths.f ws lim = some (x, e) ∧ x.length ≤ 300 := by
  by_cases h : weighs ws = true ∧ lim ≤ 15 ∧ (9 ≤ lim ∨ (5 ≤ lim ∧ pos ws ≤ 19))
  · obtain ⟨ws', a1, a2, a3, _⟩ := lens_ok h.1 h.2.1 h.2.2
    exact ⟨_, _, a1, by rw [once_length, a3]; exact ((weighs_iff ws).1 h.1).1⟩
  · refine ⟨[], 1, lens_bad ?_, by simp⟩
    cases hw : weighs ws with
    | false => exact Or.inl rfl
    | true => rw [hw] at h; simp at h; omega
theorem exact_l0 (w l : List Int) (hw : w.length ≤ 320) (hl : l.length ≤ 320) : ∀ (d i k : Nat) (x : List Int), x.length ≤ 300 → i + d = x.length → d + 400 ≤ k → wherrylaw03_TreeExact.l0 k w l w l x (i : Int) = some true := by
  intro d
  induction d with
  | zero =>
    intro i k x h300 hi hk
    obtain ⟨k, rfl⟩ : ∃ m, k = m + 1 := ⟨k - 1, by omega⟩
    simp only [wherrylaw03_TreeExact.l0]
    rw [if_neg (by omega), keepInts_is w w (by omega) k (by omega), decide_eq_true rfl, Option.bind_some, if_pos rfl, keepInts_is l l (by omega) k (by omega), decide_eq_true rfl, Option.bind_some, if_pos rfl, wakes03_is k (by omega)]
    rfl
  | succ d ih =>
    intro i k x h300 hi hk
    obtain ⟨k, rfl⟩ : ∃ m, k = m + 1 := ⟨k - 1, by omega⟩
    simp only [wherrylaw03_TreeExact.l0]
    rw [if_pos (by omega), if_pos (by omega), wrap64_in (a := (i : Int) + 1) (by omega) (by omega)]
    exact ih (i + 1) k _ (by rw [List.length_set]; exact h300) (by rw [List.length_set]; omega) (by omega)
theorem TreeExact : wherrylaw03_TreeExact.Pure := by
  intro l0 a1 l2 _ _ _ _ _ _ _
  refine ⟨500000, ?_⟩
  have out : ∀ k, wherrylaw03_TreeExact.j0 (k + 1) l0 a1 l2 true = some true := by
    intro k
    simp only [wherrylaw03_TreeExact.j0]
    rw [if_pos trivial]
  unfold wherrylaw03_TreeExact.f
  by_cases h0 : (l0.length : Int) > 320
  · rw [if_pos h0]; exact out 499999
  rw [if_neg h0]
  by_cases h2 : (l2.length : Int) > 320
  · rw [decide_eq_true h2]; exact out 499999
  rw [decide_eq_false h2]
  obtain ⟨x, e, hx, hl⟩ := lens_some l0 a1
  obtain ⟨a, f, ha, _⟩ := cost_some l0 l2
  obtain ⟨k, hk⟩ : ∃ k, k = 499998 := ⟨_, rfl⟩
  rw [show (500000 : Nat) = k + 2 from by omega]
  have hk4 : 450000 ≤ k := by omega
  clear hk
  simp only [wherrylaw03_TreeExact.j0]
  rw [if_neg (by decide), twinInts_is l0 (by omega), Option.bind_some, twinInts_is l2 (by omega), Option.bind_some, refLengths_is l0 a1 (k + 1) (by omega), hx, Option.bind_some, Option.bind_some, refCost_is l0 l2 (k + 1) (by omega), ha, Option.bind_some, Option.bind_some]
  dsimp only
  rw [if_pos (by trivial), keepInts_is x x (by omega) (k + 1) (by omega), decide_eq_true rfl, Option.bind_some, if_pos rfl, if_pos (by trivial), show (a != a) = false from by simp]
  simp only [wherrylaw03_TreeExact.j1]
  rw [if_neg (by decide)]
  exact exact_l0 l0 l2 (by omega) (by omega) x.length 0 k x hl (by omega) (by omega)
end Go.Proofs.Ytaoeghdpmmeaiaa.Pure
