/- GrowMore holds: up to a greater count the same is told, and what is told is never longer than it may be; at every row of bytes and every two ints. No condition. -/
import Derived.Test.YtcjijhjdkgjgeaaGrowAll
import Derived.Test.YtcjijhjdkgjgeaaPureGrowBad
import Derived.Test.YtcjijhjdkgjgeaaPx23
import Derived.Test.YtcjijhjdkgjgeaaPx26
import Derived.Test.YtcjijhjdkgjgeaaPx27
namespace Go.Proofs.Ytcjijhjdkgjgeaa.Pure
open Go.RowKit Go.Proofs.Ytcjijhjdkgjgeaa.P Go.Proofs.Ytcjijhjdkgjgeaa.Glue Go.Proofs.YtcjijhjdkgjgeaaW.PrintWords Go.Proofs.YtcjijhjdkgjgeaaW.PrintLast Go.Proofs.YtcjijhjdkgjgeaaW.PrintMore
set_option linter.unusedVariables false
set_option linter.unusedSimpArgs false

theorem GrowMore : wherrylaw07_GrowMore.Pure := by
  intro l0 a1 a2 h1 _ h3 _ _
  refine ⟨6000, ?_⟩
  unfold wherrylaw07_GrowMore.f
  by_cases hlen : (l0.length : Int) > 1500
  · rw [if_pos hlen]
  rw [if_neg hlen]
  have hb : WP.Bytes l0 := bytes_of h3
  obtain ⟨n, hn, en⟩ := tmod_u64 a1 4097 (by decide) (by decide)
  obtain ⟨m, hm, em⟩ := tmod_u64 a2 4097 (by decide) (by decide)
  rw [en, em]
  have hmx : ∃ q : Nat, mx (n : Int) (m : Int) = (q : Int) ∧ n ≤ q ∧ q ≤ 4096 := by
    unfold mx
    by_cases h : (n : Int) < m
    · first
        | exact ⟨m, by rw [if_pos h], by omega, by omega⟩
        | exact ⟨m, by rw [if_neg (by omega)], by omega, by omega⟩
    · first
        | exact ⟨n, by rw [if_neg h], by omega, by omega⟩
        | exact ⟨n, by rw [if_pos (by omega)], by omega, by omega⟩
  obtain ⟨q, eq, hnq, hq⟩ := hmx
  rw [eq]
  obtain ⟨r, hr⟩ := run_tot hb (n : Int)
  obtain ⟨t, ht⟩ := run_tot hb (q : Int)
  have hlr := run_len (n := (n : Int)) (m := (q : Int)) (by omega) (by omega) (by omega) hr
  have hmore := run_more (n := (n : Int)) (m := (q : Int)) (by omega) (by omega) (by omega) hr
  unfold grow_Grow.f
  rw [hr, ht, Option.bind_some, Option.bind_some]
  have hw : ((wherrylaw07_wakes.f 6000).bind fun t => some t) = some true := by rw [wakes07_is 6000 (by omega)]; rfl
  rcases hmore with h2 | h2
  · have e0 : r.er ≠ 0 := by omega
    rw [if_pos e0, Option.bind_some]
    dsimp only
    by_cases ht0 : t.er ≠ 0
    · rw [if_pos ht0, Option.bind_some, if_neg e0, if_pos (by rfl), if_pos h2]; exact hw
    · rw [if_neg ht0, Option.bind_some, if_neg e0, if_pos (by rfl), if_pos h2]; exact hw
  · have : t = r := by rw [ht] at h2; injection h2
    rw [this]
    by_cases e0 : r.er ≠ 0
    · simp only [if_pos e0, Option.bind_some]
      rw [if_neg e0, if_pos (by rfl), if_pos trivial]
      by_cases e2 : r.er = 2
      · rw [if_pos e2]; exact hw
      · rw [if_neg e2]; exact hw
    · simp only [if_neg e0, Option.bind_some]
      rw [if_pos trivial, if_pos trivial, keepBytes_is r.out r.out (by omega) 6000 (by omega), Option.bind_some, if_pos (decide_eq_true rfl), if_pos hlr]
      exact hw
end Go.Proofs.Ytcjijhjdkgjgeaa.Pure
