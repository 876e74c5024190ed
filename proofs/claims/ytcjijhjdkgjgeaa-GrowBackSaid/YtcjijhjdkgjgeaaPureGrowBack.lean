/- GrowBack holds: what was made small is made great as it was, up to its own length; up to one less it is too long; at every list of bytes. No condition. -/
import Derived.Test.YtcjijhjdkgjgeaaGrowRead3
import Derived.Test.YtcjijhjdkgjgeaaGrowAll
import Derived.Test.YtcjijhjdkgjgeaaPx2
import Derived.Test.YtcjijhjdkgjgeaaPx25
import Derived.Test.YtcjijhjdkgjgeaaPx64
namespace Go.Proofs.Ytcjijhjdkgjgeaa.Pure
open Go.RowKit Go.Proofs.Ytcjijhjdkgjgeaa.P Go.Proofs.Ytcjijhjdkgjgeaa.Glue Go.Proofs.YtcjijhjdkgjgeaaW.PrintWords Go.Proofs.YtcjijhjdkgjgeaaW.PrintLast Go.Proofs.YtcjijhjdkgjgeaaW.PrintMore
set_option linter.unusedVariables false
set_option linter.unusedSimpArgs false

theorem wakes07b_is : wherrylaw07_wakes.f = some true := rfl
theorem grow_of {b : List Int} {n : Int} {r : RSt} (h : runS b n = some r) : grow_Grow.f b n = some (if r.er ≠ 0 then ([], r.er) else (r.out, 0)) := by
  unfold grow_Grow.f
  rw [h, Option.bind_some]
theorem blocks_of {b : List Int} {r : RSt} (h : runS b 4096 = some r) : grow_Blocks.f b = some (if r.er ≠ 0 then (0, r.er) else (r.bl, 0)) := by
  unfold grow_Blocks.f
  rw [h, Option.bind_some]
theorem GrowBack : wherrylaw07_GrowBack.Pure := by
  intro l0 h1 _ h3
  refine ⟨6000, ?_⟩
  unfold wherrylaw07_GrowBack.f
  by_cases hlen : (l0.length : Int) > 1500
  · rw [if_pos hlen]
  rw [if_neg hlen]
  have hb : WP.Bytes l0 := bytes_of h3
  have h4 : l0.length ≤ 4096 := by omega
  obtain ⟨m⟩ := made_all l0 hb h4
  obtain ⟨it, hk⟩ := least_kind m
  have hl := least_len h4 m
  have hx : WP.Bytes m.least.1 := hk.pen.1.bytes
  have hrun := fun (most : Int) hm hr => run_made hb h4 hk (by omega) (most := most) hm hr
  have hw : (wherrylaw07_wakes.f.bind fun t => some t) = some true := by rw [wakes07b_is]; rfl
  have g1 := hrun (l0.length : Int) (by omega) (Int.le_refl _)
  have e1 : grow_Grow.f m.least.1 (l0.length : Int) = some (l0, 0) := by rw [grow_of g1, if_neg (by simp)]
  have e2 : grow_Blocks.f m.least.1 = some (1, 0) := by rw [blocks_of (hrun 4096 (by omega) (by omega)), if_neg (by simp)]
  rw [shrink_f hb h4 m, Option.bind_some]
  simp only
  rw [e1, Option.bind_some]
  simp only
  rw [e2, Option.bind_some]
  simp only
  rw [if_pos trivial, if_pos trivial, if_pos trivial, if_pos trivial, keepBytes_is l0 l0 (by omega) 6000 (by omega), Option.bind_some, decide_eq_true rfl, show (6000 : Nat) = 5999 + 1 from rfl, wherrylaw07_GrowBack.j0, if_neg (by decide)]
  by_cases h0 : (l0.length : Int) = 0
  · rw [if_pos h0]
    exact hw
  · rw [if_neg h0, wrap64_in (by omega) (by omega)]
    obtain ⟨r, hr⟩ := run_tot hx ((l0.length : Int) - 1)
    have hlr := run_len (n := (l0.length : Int) - 1) (m := (l0.length : Int)) (by omega) (by omega) (by omega) hr
    have hmore := run_more (n := (l0.length : Int) - 1) (m := (l0.length : Int)) (by omega) (by omega) (by omega) hr
    have e3 : r.er = 2 := by
      rcases hmore with h | h
      · exact h
      · rw [g1] at h
        injection h with h
        rw [← h] at hlr
        simp only at hlr
        omega
    rw [grow_of hr, e3, if_pos (by decide), Option.bind_some]
    simp only
    rw [if_pos trivial, if_pos (by rfl)]
    exact hw
end Go.Proofs.Ytcjijhjdkgjgeaa.Pure
