-- Written by a program of this session out of the translation. Lean checks it.
import Derived.Test.YtaoeghdpmmeaiaaPx0
import Derived.Test.YtaoeghdpmmeaiaaPx2
namespace Go.Proofs.Ytaoeghdpmmeaiaa.P
open Go.RowKit Go.Proofs.YtaoeghdpmmeaiaaW.PrintWords Go.Proofs.YtaoeghdpmmeaiaaW.PrintLast Go.Proofs.YtaoeghdpmmeaiaaW.PrintMore
attribute [local go_sem] max2_int min2_int max_two min_two max_three min_three max_four min_four   -- for this text's walks alone
set_option linter.unusedVariables false
set_option linter.unusedSimpArgs false

-- PART
/-! ### slices_ContainsFunc_int_int: function 26 (by hand) -/
/-- A length that may not be. -/
def badLen (x : Int) : Bool := decide (x < 0) || decide (x > 15)
theorem any_bad {l : List Int} (h : l.any badLen = false) : ∀ x ∈ l, 0 ≤ x ∧ x ≤ 15 := by
  intro x hx
  have := List.any_eq_false.1 h x hx
  unfold badLen at this
  simp at this
  omega
set_option maxHeartbeats 8000000 in
set_option maxRecDepth 100000 in
theorem contains_func (F : Nat) (p : Int → Bool) (hE : ∀ (args : Array Value) (W : World), (callFunc F args).run Try.prog W = .ok (.enter F args) W) (hF : ∀ (x : Int) (W : World), Calls Try.prog F #[.int .i64 x] W fun e W' => e = .returned (.bool (p x)) ∧ Drawn0 W W') (A0 : Option Addr) (c0 : Nat) (l0 : List Int) (w : World)
    (hr0 : Kd.C (Kd.int .i64) w A0 l0.length l0) (hc0 : l0.length ≤ c0) :
    Calls Try.prog 26 #[.slice A0 l0.length c0, .func (.func F) #[] #[]] w fun e w' => e = .returned (.bool (l0.any p)) ∧ Drawn0 w w' := by
  have HC := Aside0.mk (index_func F p hE hF A0 c0 l0 w hr0 hc0)
  have HA := Aside0.mk (firstBad_any p l0 0)
  clear hE hF hr0
  go_enter Try.func26, Try.ntmps26
  go_wp2_with fail
  refine HC.out.mono ?_
  rintro e1 w1 ⟨rfl, hd⟩
  have HD := Aside0.mk hd
  clear hd
  generalize firstBad p l0 0 = q at HA ⊢
  go_wp2_with fail
  go_ret
  rw [← HA.out]
  exact ⟨rfl, HD.out⟩

-- PART
end Go.Proofs.Ytaoeghdpmmeaiaa.P
