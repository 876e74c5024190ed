-- Written by a program of this session out of the translation. Lean checks it.
import Derived.Test.YtaoeghdpmmeaiaaPx0
namespace Go.Proofs.Ytaoeghdpmmeaiaa.P
open Go.RowKit Go.Proofs.YtaoeghdpmmeaiaaW.PrintWords Go.Proofs.YtaoeghdpmmeaiaaW.PrintLast Go.Proofs.YtaoeghdpmmeaiaaW.PrintMore
attribute [local go_sem] max2_int min2_int max_two min_two max_three min_three max_four min_four   -- for this text's walks alone
set_option linter.unusedVariables false
set_option linter.unusedSimpArgs false

-- PART
/-! ### slices_Grow_int_int: function 37 (by hand) -/
set_option maxHeartbeats 8000000 in
set_option maxRecDepth 100000 in
/-- Room for so many, out of nothing. -/
theorem grow_nil (n : Nat) (w : World) (hn : n ≤ 1000000) :
    Calls Try.prog 37 #[.slice none 0 0, .int .i64 n] w fun e w' => ∃ v, e = .returned v ∧ Kd.R (Kd.int .i64) 3 w' w.heap.size (fun _ => True) v [] ∧ Below w.heap.size w w' := by
  by_cases h0 : n = 0
  · subst h0
    go_enter Try.func37, Try.ntmps37
    go_wp2_with fail
    go_ret
    exact ⟨_, rfl, Kd.R_nil _ _ _ _ _, Below.refl _ _⟩
  · have h1 : decide ((n : Int) < 0) = false := decide_eq_false (by omega)
    have h2 : decide ((0 : Int) < (n : Int)) = true := decide_eq_true (by omega)
    have HN := Aside0.mk (Kd.R_nil (Kd.int .i64) 3 w w.heap.size (fun _ => True))
    obtain ⟨ti, hti, hts⟩ : ∃ i, Try.prog.info? 3 = some i ∧ i.size = 1 := by
      have h := info3
      obtain ⟨i, hi, hz⟩ := Option.map_eq_some_iff.1 h
      simp only [Prod.mk.injEq] at hz
      exact ⟨i, hi, hz.2.1⟩
    have HI := Aside0.mk (And.intro hti hts)
    clear hti hts
    go_enter Try.func37, Try.ntmps37
    go_wp2_with ((with_reducible refine gate_builtin (b := .append) (xs := #[.tmp 20, .tmp 21]) rfl ?_); at_builtin; refine Kd.R_append_zeros (Kd.int .i64) (w0 := w) w.heap.size rfl (.tmp 20) (.tmp 21) 22 3 3 (.int .i64 0) 8 rfl Try.underlying22 Try.underlying3 info3 rfl (by decide) (by decide) (.slice none 0 0) [] (0 : Int) (n : Int) (fun _ => True) rfl rfl rfl (fun _ _ => trivial) HN.out (by omega) (Below.refl _ _) (Nat.le_refl _) (by simp; omega) ?_; intro v1 w1 ho hb hg hat; (obtain ⟨A1, c1, e1⟩ := Kd.R_slice ho); (subst e1); (have hcut := (print_take_int (k := .i64) 22 3 Try.underlying22 HI.out.1 HI.out.2 A1 c1 ([] ++ List.replicate ((n : Int)).toNat 0) 0 (by omega) (by omega) (Kd.R_reads' ho).2.1).1 w1); (have HO := Aside0.mk ho); (have HB := Aside0.mk hb); clear ho hb hg hat)
    go_ret
    exact ⟨_, rfl, Kd.R_take (m := 0) HO.out (Nat.zero_le _), HB.out⟩

-- PART
end Go.Proofs.Ytaoeghdpmmeaiaa.P
