/- GrowEmpty holds: empty stored blocks ahead change nothing but how many blocks there are; at every list of bytes and every int. No condition. -/
import Derived.Test.YtcjijhjdkgjgeaaGrowEmp
import Derived.Test.YtcjijhjdkgjgeaaPx25
import Derived.Test.YtcjijhjdkgjgeaaPx65
namespace Go.Proofs.Ytcjijhjdkgjgeaa.Pure
open Go.RowKit Go.Proofs.Ytcjijhjdkgjgeaa.P Go.Proofs.Ytcjijhjdkgjgeaa.Glue Go.Proofs.YtcjijhjdkgjgeaaW.PrintWords Go.Proofs.YtcjijhjdkgjgeaaW.PrintLast Go.Proofs.YtcjijhjdkgjgeaaW.PrintMore
set_option linter.unusedVariables false
set_option linter.unusedSimpArgs false

theorem wakes07e_is : wherrylaw07_wakes.f = some true := rfl
theorem empty_loop {l0 x : List Int} {n : Nat} (hn : n < 20) (hx : x.length ≤ 4000) (hl : l0.length ≤ 1500) (hr : ∃ p, runS (emp n ++ x) 4096 = some ⟨p, l0, ((n + 1 : Nat) : Int), 0⟩) : ∀ (d i k : Nat), i + d = n → 6000 + d < k → wherrylaw07_GrowEmpty.l0 k l0 (n : Int) x (emp i) (i : Int) = some true
  | 0, i, k, hi, hk => by
    obtain ⟨k, rfl⟩ : ∃ m, k = m + 1 := ⟨k - 1, by omega⟩
    obtain rfl : i = n := by omega
    obtain ⟨p, hr⟩ := hr
    have he := emp_len i
    have e1 : grow_Grow.f (emp i ++ x) 4096 = some (l0, 0) := by
      unfold grow_Grow.f
      rw [hr, Option.bind_some, if_neg (by simp)]
    have e2 : grow_Blocks.f (emp i ++ x) = some (((i + 1 : Nat) : Int), 0) := by
      unfold grow_Blocks.f
      rw [hr, Option.bind_some, if_neg (by simp)]
    rw [wherrylaw07_GrowEmpty.l0, if_neg (by omega), if_pos (by omega), Option.bind_some, e1, Option.bind_some]
    simp only
    rw [e2, Option.bind_some]
    simp only
    rw [if_pos trivial, if_pos trivial, if_pos (by rw [wrap64_in (by omega) (by omega)]; omega), keepBytes_is l0 l0 (by omega) k (by omega), Option.bind_some, if_pos (decide_eq_true rfl), wakes07e_is]
    rfl
  | d + 1, i, k, hi, hk => by
    obtain ⟨k, rfl⟩ : ∃ m, k = m + 1 := ⟨k - 1, by omega⟩
    have he := emp_len i
    rw [wherrylaw07_GrowEmpty.l0, if_pos (by omega), Option.bind_some, if_pos (by simp only [List.length_cons, List.length_nil]; omega), wrap64_in (by omega) (by omega), show (i : Int) + 1 = ((i + 1 : Nat) : Int) from by omega]
    exact empty_loop hn hx hl hr d (i + 1) k (by omega) (by omega)
theorem GrowEmpty : wherrylaw07_GrowEmpty.Pure := by
  intro l0 a1 h1 _ h3 _
  refine ⟨7000, ?_⟩
  unfold wherrylaw07_GrowEmpty.f
  by_cases hlen : (l0.length : Int) > 1500
  · rw [if_pos hlen]
  rw [if_neg hlen]
  have hb : WP.Bytes l0 := bytes_of h3
  have h4 : l0.length ≤ 4096 := by omega
  obtain ⟨m⟩ := made_all l0 hb h4
  obtain ⟨it, hk⟩ := least_kind m
  have hl := least_len h4 m
  obtain ⟨n, hn, en⟩ := tmod_u64 a1 20 (by decide) (by decide)
  rw [shrink_f hb h4 m, Option.bind_some]
  simp only
  rw [if_pos trivial, en]
  exact empty_loop (show n < 20 by omega) (by omega) (by omega) ⟨_, run_emp hb h4 hk (by omega) (by omega)⟩ n 0 7000 (by omega) (by omega)
end Go.Proofs.Ytcjijhjdkgjgeaa.Pure
