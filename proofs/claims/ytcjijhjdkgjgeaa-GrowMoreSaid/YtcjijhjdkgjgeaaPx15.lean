-- Written by a program of this session out of the translation. Lean checks it.
import Derived.Test.YtcjijhjdkgjgeaaPx0
import Derived.Test.YtcjijhjdkgjgeaaPx8
namespace Go.Proofs.Ytcjijhjdkgjgeaa.P
open Go.RowKit Go.Proofs.YtcjijhjdkgjgeaaW.PrintWords Go.Proofs.YtcjijhjdkgjgeaaW.PrintLast Go.Proofs.YtcjijhjdkgjgeaaW.PrintMore
attribute [local go_sem] max2_int min2_int max_two min_two max_three min_three max_four min_four   -- for this text's walks alone
set_option linter.unusedVariables false
set_option linter.unusedSimpArgs false

-- PART
/-! ### canon_Book_weight: function 73 (by hand) -/
/-- What so many codes of each length weigh, up to a length; how many there are. -/
def weighTo (c : Nat → Nat) : Nat → Nat
  | 0 => 0
  | n + 1 => weighTo c n + c (n + 1) * 2 ^ (15 - (n + 1))
def allTo (c : Nat → Nat) : Nat → Nat
  | 0 => 0
  | n + 1 => allTo c n + c (n + 1)
theorem weighTo_le (c : Nat → Nat) (T : Nat) (hc : ∀ n, c n ≤ T) : ∀ n, weighTo c n ≤ n * (T * 32768)
  | 0 => by simp [weighTo]
  | n + 1 => by
    have ih := weighTo_le c T hc n
    have h1 : 2 ^ (15 - (n + 1)) ≤ 2 ^ 15 := Nat.pow_le_pow_right (by decide) (by omega)
    have h2 := Nat.mul_le_mul (hc (n + 1)) h1
    simp only [weighTo]
    rw [Nat.add_mul]
    omega
theorem allTo_le (c : Nat → Nat) (T : Nat) (hc : ∀ n, c n ≤ T) : ∀ n, allTo c n ≤ n * T
  | 0 => by simp [allTo]
  | n + 1 => by
    have ih := allTo_le c T hc n
    have := hc (n + 1)
    simp only [allTo]
    rw [Nat.add_mul]
    omega
set_option maxHeartbeats 8000000 in
set_option maxRecDepth 100000 in
theorem book_weight (base g : Nat) (F : Nat → Int) (S : Nat → List Int) (w : World) (hb : BookAt w base g F S) (hS : ∀ n, (S n).length ≤ 1000000) :
    Calls Try.prog 73 #[.pointer (some ⟨g, 0, none⟩)] w fun e w' => e = .returned (.tuple #[.int .i64 (weighTo (fun n => (S n).length) 15), .int .i64 (allTo (fun n => (S n).length) 15)]) ∧ w' = w := by
  have HB := Aside0.mk hb
  have HW := Aside0.mk (weighTo_le (fun n => (S n).length) 1000000 hS)
  have HA := Aside0.mk (allTo_le (fun n => (S n).length) 1000000 hS)
  have HS := Aside0.mk hS
  clear hb hS
  go_enter Try.func73, Try.ntmps73
  go_wp2_with fail
  go_loop [2, 3, 4] (fun v2 v3 v4 => ∃ n : Nat, n ≤ 15 ∧ v2 = .int .i64 (weighTo (fun n => (S n).length) n) ∧ v3 = .int .i64 (allTo (fun n => (S n).length) n) ∧ v4 = .int .i64 ((n : Int) + 1)) (fun _ _ v4 => (16 - intOf v4).toNat)
  case atStart => exact ⟨0, by omega, rfl, rfl, rfl⟩
  case round =>
    obtain ⟨n, hn, rfl, rfl, rfl⟩ := hrel
    by_cases hlt : n < 15
    · obtain ⟨hm1, hm2⟩ := HB.out.many (n + 1) (by omega)
      have hw0 := HW.out n
      have hw1 := HW.out (n + 1)
      have ha0 := HA.out n
      have hc := HS.out (n + 1)
      have E1 := Aside0.mk (show weighTo (fun n => (S n).length) (n + 1) = weighTo (fun n => (S n).length) n + (S (n + 1)).length * 2 ^ (15 - (n + 1)) from rfl)
      have E2 := Aside0.mk (show allTo (fun n => (S n).length) (n + 1) = allTo (fun n => (S n).length) n + (S (n + 1)).length from rfl)
      go_wp2_with fail
      have e1 : ((S (n + 1)).length : Int) * 2 ^ (14 - n) = (((S (n + 1)).length * 2 ^ (15 - (n + 1)) : Nat) : Int) := by rw [show 15 - (n + 1) = 14 - n from by omega]; simp
      have e2 := E1.out
      have e3 := E2.out
      have hp : (S (n + 1)).length * 2 ^ (15 - (n + 1)) ≤ 1000000 * 32768 := Nat.mul_le_mul hc (by have := Nat.pow_le_pow_right (n := 2) (by decide) (show 15 - (n + 1) ≤ 15 by omega); simpa using this)
      refine ⟨⟨n + 1, by omega, ?_, by rw [e3]; go_num, by go_num⟩, by simp [intOf]; omega⟩
      rw [e1, e2]
      generalize (S (n + 1)).length * 2 ^ (15 - (n + 1)) = q at *
      have : wrap64 (q : Int) = q := by unfold wrap64; omega
      rw [this]
      have : wrap64 ((weighTo (fun n => (S n).length) n : Int) + q) = (weighTo (fun n => (S n).length) n : Int) + q := by unfold wrap64; omega
      rw [this]
      rfl
    · have hn2 : n = 15 := by omega
      subst hn2
      go_wp2_with fail
      go_ret2
      exact ⟨rfl, rfl⟩

-- PART
end Go.Proofs.Ytcjijhjdkgjgeaa.P
