/- MatchFar holds: what stands further back than may be is no piece, what stands just so far is one; at every int. No condition. -/
import Derived.Test.YtagdlmlanjjecaaMatch
import Derived.Test.YtagdlmlanjjecaaPx4
import Derived.Test.YtagdlmlanjjecaaPx21
namespace Go.Proofs.Ytagdlmlanjjecaa.Pure
open Go.RowKit Go.Proofs.Ytagdlmlanjjecaa.P Go.Proofs.YtagdlmlanjjecaaW.PrintWords Go.Proofs.YtagdlmlanjjecaaW.PrintLast Go.Proofs.YtagdlmlanjjecaaW.PrintMore
set_option linter.unusedVariables false
set_option linter.unusedSimpArgs false
/-- Three bytes, noughts, the three once more. -/
def farT (m : Nat) : List Int := [1, 2, 3] ++ List.replicate m 0
theorem farT_get (m j : Nat) (h1 : 0 < j) (h2 : j < m + 3) : (farT m ++ [1, 2, 3]).getD j 0 ≠ 1 := by
  unfold farT
  rw [List.getD_eq_getElem?_getD, List.getElem?_append_left (by simp; omega)]
  match j, h1 with
  | 1, _ => simp
  | 2, _ => simp
  | j + 3, _ =>
    simp only [List.cons_append, List.nil_append, List.getElem?_cons_succ]
    rw [List.getElem?_replicate, if_pos (by omega)]
    simp
theorem farT_far (m j : Nat) : (farT m ++ [1, 2, 3]).getD (m + 3 + j) 0 = ([1, 2, 3] : List Int).getD j 0 := by
  have hl : (farT m).length = m + 3 := by unfold farT; simp
  rw [List.getD_eq_getElem?_getD, List.getElem?_append_right (by omega), hl, Nat.add_sub_cancel_left, List.getD_eq_getElem?_getD]
theorem farT_near (m j : Nat) (h : j < 3) : (farT m ++ [1, 2, 3]).getD j 0 = ([1, 2, 3] : List Int).getD j 0 := by
  unfold farT
  match j, h with
  | 0, _ => rfl
  | 1, _ => rfl
  | 2, _ => rfl
theorem far_best (m : Nat) : IsBest (farT m ++ [1, 2, 3]) (m + 3) (if m + 3 ≤ 2048 then 3 else 0) (if m + 3 ≤ 2048 then m + 3 else 0) := by
  have hlen : (farT m ++ [1, 2, 3]).length = m + 6 := by unfold farT; simp
  have h0 : ∀ o, 1 ≤ o → o < m + 3 → com (farT m ++ [1, 2, 3]) (m + 3 - o) (m + 3) = 0 := by
    intro o h1 h2
    by_cases hc : com (farT m ++ [1, 2, 3]) (m + 3 - o) (m + 3) = 0
    · exact hc
    · have := (com_same (farT m ++ [1, 2, 3]) (m + 3 - o) (m + 3) (j := 0) (by omega)).2
      rw [farT_far m 0, Nat.add_zero] at this
      exact absurd this (farT_get m _ (by omega) (by omega))
  have h3 : com (farT m ++ [1, 2, 3]) 0 (m + 3) = 3 := by
    have a := com_len (farT m ++ [1, 2, 3]) 0 (m + 3) (by omega)
    have b := com_ge (farT m ++ [1, 2, 3]) 0 (m + 3) 3 (by omega) (fun j hj => ⟨by omega, by rw [Nat.zero_add, farT_far, farT_near m j hj]⟩)
    omega
  by_cases h : m + 3 ≤ 2048
  · rw [if_pos h, if_pos h]
    refine ⟨Or.inr ⟨by omega, by omega, by omega, by omega, by omega, by omega, by rw [Nat.sub_self]; exact h3⟩, fun o h1 h2 h4 => ?_⟩
    by_cases e : o = m + 3
    · subst e; rw [Nat.sub_self, h3]; right; right; exact ⟨rfl, Nat.le_refl _⟩
    · left; rw [h0 o h1 (by omega)]; omega
  · rw [if_neg h, if_neg h]
    refine ⟨Or.inl ⟨rfl, rfl⟩, fun o h1 h2 h4 => ?_⟩
    left; rw [h0 o h1 (by omega)]; omega
theorem farT_wf (m : Nat) : ∀ x ∈ farT m ++ [1, 2, 3], (Lit.int .u8 x).wf = true := by
  intro x hx
  unfold farT at hx
  simp only [List.mem_append, List.mem_replicate, List.mem_cons, List.not_mem_nil, or_false] at hx
  rcases hx with ((rfl | rfl | rfl) | ⟨_, rfl⟩) | rfl | rfl | rfl <;> decide
theorem far_loop (more : Nat) (hm : more < 4) : ∀ (f m k : Nat), m + 3 + f = 2047 + more → f < k → wherrylaw04_MatchFar.l0 k (more : Int) (farT m) = some true
  | 0, m, k, h, hk => by
    obtain ⟨k, rfl⟩ : ∃ j, k = j + 1 := ⟨k - 1, by omega⟩
    have hl : (farT m).length = m + 3 := by unfold farT; simp
    have hlen : (farT m ++ [1, 2, 3]).length = m + 6 := by unfold farT; simp
    rw [wherrylaw04_MatchFar.l0, wi (by omega) (by omega), if_neg (by omega), Option.bind_some]
    have hb := best_is (farT_wf m) (by omega) (m + 3) (by omega)
    obtain ⟨e1, e2⟩ := (bestL_is (farT m ++ [1, 2, 3]) (m + 3) (by omega)).one (far_best m)
    rw [e1, e2] at hb
    rw [if_pos (by simp; omega), hl, hb, Option.bind_some]
    dsimp only
    by_cases h2 : m + 3 ≤ 2048
    · rw [if_pos h2, if_pos h2, if_neg (by omega), if_pos (by rfl), if_pos rfl]; rfl
    · rw [if_neg h2, if_neg h2, if_pos (by omega), if_pos (by rfl), if_pos (by rfl)]; rfl
  | f + 1, m, k, h, hk => by
    obtain ⟨k, rfl⟩ : ∃ j, k = j + 1 := ⟨k - 1, by omega⟩
    have hl : (farT m).length = m + 3 := by unfold farT; simp
    rw [wherrylaw04_MatchFar.l0, wi (by omega) (by omega), if_pos (by omega), if_pos (by omega), show farT m ++ [0] = farT (m + 1) from by unfold farT; rw [List.append_assoc, List.replicate_succ']]
    exact far_loop more hm f (m + 1) k (by omega) (by omega)
theorem MatchFar : wherrylaw04_MatchFar.Pure := by
  intro a0 _
  refine ⟨3000, ?_⟩
  unfold wherrylaw04_MatchFar.f
  obtain ⟨m, hm, em⟩ := tmod_u64 a0 4 (by omega) (by omega)
  rw [em]
  exact far_loop m (by omega) (2044 + m) 0 3000 (by omega) (by omega)
end Go.Proofs.Ytagdlmlanjjecaa.Pure
