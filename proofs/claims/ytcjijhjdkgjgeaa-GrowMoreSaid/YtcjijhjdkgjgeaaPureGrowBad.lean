/- GrowBad holds: streams by hand that are none are told as none, with ErrBytes, by Grow and by Blocks; at every int and every byte. No condition. -/
import Derived.Test.YtcjijhjdkgjgeaaBits
import Derived.Test.YtcjijhjdkgjgeaaPx22
import Derived.Test.YtcjijhjdkgjgeaaPx23
import Derived.Test.YtcjijhjdkgjgeaaPx25
import Derived.Test.YtcjijhjdkgjgeaaPx26
import Derived.Test.YtcjijhjdkgjgeaaPx28
namespace Go.Proofs.Ytcjijhjdkgjgeaa.Pure
open Go.RowKit Go.Proofs.Ytcjijhjdkgjgeaa.P Go.Proofs.Ytcjijhjdkgjgeaa.Glue Go.Proofs.YtcjijhjdkgjgeaaW.PrintWords Go.Proofs.YtcjijhjdkgjgeaaW.PrintLast Go.Proofs.YtcjijhjdkgjgeaaW.PrintMore
set_option linter.unusedVariables false
set_option linter.unusedSimpArgs false

theorem wakes07_is (k : Nat) (hk : 40 ≤ k) : wherrylaw07_wakes.f k = some true := at_rounds wherrylaw07_wakes.mono hk (by decide +kernel)
/-- A stream that is none: what is told of it. -/
theorem bad_of {b : List Int} (h : (runS b 4096).map RSt.er = some 3) : grow_Grow.f b 4096 = some ([], 3) ∧ grow_Blocks.f b = some (0, 3) := by
  obtain ⟨s, hs, he⟩ := Option.map_eq_some_iff.1 h
  unfold grow_Grow.f grow_Blocks.f
  rw [hs, Option.bind_some, Option.bind_some, he]
  exact ⟨by rw [if_pos (by decide)], by rw [if_pos (by decide)]⟩
theorem bad0 (c : Int) : (runS [7, c] 4096).map RSt.er = some 3 := by kernel_rfl
theorem bad1 (c : Int) : (runS [1, 1, 0, 254, 254, c] 4096).map RSt.er = some 3 := by kernel_rfl
theorem bad2 (c : Int) : (runS [9, 1, 0, 254, 255, c] 4096).map RSt.er = some 3 := by kernel_rfl
theorem bad3 (c : Int) : (runS [0, 1, 0, 254, 255, c] 4096).map RSt.er = some 3 := by kernel_rfl
theorem bad4 : (runS [245, 0, 0, 0, 0, 0] 4096).map RSt.er = some 3 := by kernel_rfl
theorem bad5 : (runS [5, 0, 0, 0, 0, 0] 4096).map RSt.er = some 3 := by kernel_rfl
theorem bad6 (c : Int) : (runS [1, 0, 0, 255, 255, c] 4096).map RSt.er = some 3 := by kernel_rfl
theorem GrowBad : wherrylaw07_GrowBad.Pure := by
  intro a0 c _ _
  refine ⟨50, ?_⟩
  have hw : ((wherrylaw07_wakes.f 50).bind fun t => some t) = some true := by rw [wakes07_is 50 (by omega)]; rfl
  have fin : ∀ b : List Int, (runS b 4096).map RSt.er = some 3 → ((grow_Grow.f b 4096).bind fun x => ((grow_Blocks.f b).bind fun y => (if x.2 = 3 then (if y.2 = 3 then (if (x.1.length : Int) = 0 then (if y.1 = 0 then ((wherrylaw07_wakes.f 50).bind fun t => (some t)) else (some false)) else (some false)) else (some false)) else (some false)))) = some true := by
    intro b hb
    obtain ⟨h1, h2⟩ := bad_of hb
    rw [h1, h2, Option.bind_some, Option.bind_some]
    exact hw
  unfold wherrylaw07_GrowBad.f
  by_cases h0 : Int.tmod (IntKind.u64.wrap a0) 7 = 0
  · rw [if_pos h0]; exact fin _ (bad0 c)
  rw [if_neg h0]
  by_cases h1 : Int.tmod (IntKind.u64.wrap a0) 7 = 1
  · rw [if_pos h1]; exact fin _ (bad1 c)
  rw [if_neg h1]
  by_cases h2 : Int.tmod (IntKind.u64.wrap a0) 7 = 2
  · rw [if_pos h2]; exact fin _ (bad2 c)
  rw [if_neg h2]
  by_cases h3 : Int.tmod (IntKind.u64.wrap a0) 7 = 3
  · rw [if_pos h3]; exact fin _ (bad3 c)
  rw [if_neg h3]
  by_cases h4 : Int.tmod (IntKind.u64.wrap a0) 7 = 4
  · rw [if_pos h4]; exact fin _ bad4
  rw [if_neg h4]
  by_cases h5 : Int.tmod (IntKind.u64.wrap a0) 7 = 5
  · rw [if_pos h5]; exact fin _ bad5
  rw [if_neg h5]
  exact fin _ (bad6 c)
end Go.Proofs.Ytcjijhjdkgjgeaa.Pure
