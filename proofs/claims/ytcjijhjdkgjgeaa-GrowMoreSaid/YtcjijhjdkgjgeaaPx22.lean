-- Written by a program of this session out of the translation. Lean checks it.
import Derived.Test.YtcjijhjdkgjgeaaPx0
import Derived.Test.YtcjijhjdkgjgeaaPx2
import Derived.Test.YtcjijhjdkgjgeaaPx21
namespace Go.Proofs.Ytcjijhjdkgjgeaa.P
open Go.RowKit Go.Proofs.YtcjijhjdkgjgeaaW.PrintWords Go.Proofs.YtcjijhjdkgjgeaaW.PrintLast Go.Proofs.YtcjijhjdkgjgeaaW.PrintMore
attribute [local go_sem] max2_int min2_int max_two min_two max_three min_three max_four min_four   -- for this text's walks alone
set_option linter.unusedVariables false
set_option linter.unusedSimpArgs false

-- PART
/-! ### grow_run: function 20 (by hand) -/
def startS : RSt := ⟨0, [], 0, 0⟩
/-- What a reader comes to. -/
def runS (b : List Int) (most : Int) : Option RSt :=
  if most < 0 ∨ most > 4096 then some { startS with er := 1 } else if b.length > 5000 then some { startS with er := 2 } else streamS b most 400 50000 50000 startS
set_option maxHeartbeats 8000000 in
set_option maxRecDepth 100000 in
theorem grow_run (A0 : Option Addr) (c0 : Nat) (b : List Int) (most : Int) (sr : RSt) (w : World) (hr0 : Kd.C (Kd.int .u8) w A0 b.length b) (hc0 : b.length ≤ c0) (h : runS b most = some sr) :
    Calls Try.prog 20 #[.slice A0 b.length c0, .int .i64 most] w fun r w' => ∃ g, r = .returned (.pointer (some ⟨g, 0, none⟩)) ∧ Rdr w w' g b most sr ∧ Below w.heap.size w w' := by
  have H := Aside0.mk h
  have HN := Aside0.mk (show ∀ e : Int, Rdr w (w.alloc (.cells #[.slice A0 b.length c0, .int .i64 0, .int .i64 most, .slice none 0 0, .int .i64 0, .int .i64 e] 49)) w.heap.size b most { startS with er := e } from fun e => ⟨A0, c0, _, blk_new w _, Nat.le_refl _, hr0, hc0, Kd.R_nil _ _ _ _ _⟩)
  have HB := Aside0.mk (show ∀ e : Int, Below w.heap.size w (w.alloc (.cells #[.slice A0 b.length c0, .int .i64 0, .int .i64 most, .slice none 0 0, .int .i64 0, .int .i64 e] 49)) from fun _ => (Below.refl _ _).alloc (Nat.le_refl _) _)
  clear hr0 h
  go_enter Try.func20, Try.ntmps20
  by_cases h1 : most < 0
  · have d1 : decide (most < 0) = true := decide_eq_true h1
    go_wp2_with fail
    go_ret
    have h := H.out
    unfold runS at h
    rw [if_pos (show most < 0 ∨ most > 4096 by omega)] at h
    injection h with h
    subst h
    exact ⟨_, rfl, HN.out 1, HB.out 1⟩
  have d1 : decide (most < 0) = false := decide_eq_false h1
  by_cases h2 : most > 4096
  · have d2 : decide (4096 < most) = true := decide_eq_true h2
    go_wp2_with fail
    go_ret
    have h := H.out
    unfold runS at h
    rw [if_pos (show most < 0 ∨ most > 4096 by omega)] at h
    injection h with h
    subst h
    exact ⟨_, rfl, HN.out 1, HB.out 1⟩
  have d2 : decide (4096 < most) = false := decide_eq_false h2
  by_cases h3 : b.length > 5000
  · have d3 : decide ((5000 : Int) < (b.length : Int)) = true := decide_eq_true (by omega)
    have d4 : decide (5000 < b.length) = true := decide_eq_true h3
    go_wp2_with fail
    go_ret
    have h := H.out
    unfold runS at h
    rw [if_neg (show ¬ (most < 0 ∨ most > 4096) by omega), if_pos (show b.length > 5000 by omega)] at h
    injection h with h
    subst h
    exact ⟨_, rfl, HN.out 2, HB.out 2⟩
  have d3 : decide ((5000 : Int) < (b.length : Int)) = false := decide_eq_false (by omega)
  have d4 : decide (5000 < b.length) = false := decide_eq_false h3
  go_wp2_with fail
  have h := H.out
  unfold runS at h
  rw [if_neg (show ¬ (most < 0 ∨ most > 4096) by omega), if_neg (show ¬ b.length > 5000 by omega)] at h
  refine (rdr_stream w.heap.size b most 400 50000 50000 startS sr w _ (HN.out 0) (HB.out 0) h).mono ?_
  rintro e w1 ⟨rfl, hR1, hB1, _⟩
  have HR1 := Aside0.mk hR1
  have HB1 := Aside0.mk hB1
  clear hR1 hB1
  go_wp2_with fail
  go_ret
  exact ⟨_, rfl, HR1.out, HB1.out⟩

-- PART
end Go.Proofs.Ytcjijhjdkgjgeaa.P
