-- Written by a program of this session out of the translation. Lean checks it.
import Derived.Test.YtcjijhjdkgjgeaaPx0
import Derived.Test.YtcjijhjdkgjgeaaPx22
namespace Go.Proofs.Ytcjijhjdkgjgeaa.P
open Go.RowKit Go.Proofs.YtcjijhjdkgjgeaaW.PrintWords Go.Proofs.YtcjijhjdkgjgeaaW.PrintLast Go.Proofs.YtcjijhjdkgjgeaaW.PrintMore
attribute [local go_sem] max2_int min2_int max_two min_two max_three min_three max_four min_four   -- for this text's walks alone
set_option linter.unusedVariables false
set_option linter.unusedSimpArgs false

-- PART
/-! ### grow_Blocks: function 13 (by hand) -/
def grow_Blocks.f (l0 : List Int) : Option (Int × Int) := (runS l0 4096).bind fun s => some (if s.er ≠ 0 then (0, s.er) else (s.bl, 0))
set_option maxHeartbeats 8000000 in
set_option maxRecDepth 100000 in
theorem grow_Blocks.calls (A0 : Option Addr) (c0 : Nat) (l0 : List Int) (r1 : Int) (r2 : Int) (w : World) (hr0 : Kd.C (Kd.int .u8) w A0 l0.length l0) (hc0 : l0.length ≤ c0) (h : grow_Blocks.f l0 = some (r1, r2)) :
    Calls Try.prog 13 #[.slice A0 l0.length c0] w fun e w' => e = .returned (.tuple #[.int .i64 r1, .int .i64 r2]) ∧ Below w.heap.size w w' := by
  unfold grow_Blocks.f at h
  obtain ⟨s, hs, h⟩ := Option.bind_eq_some_iff.1 h
  injection h with h
  have HC := Aside0.mk (grow_run A0 c0 l0 4096 s w hr0 hc0 hs)
  have H := Aside0.mk h
  clear h hs hr0
  go_enter Try.func13, Try.ntmps13
  go_wp2_with fail
  refine HC.out.mono ?_
  rintro e w1 ⟨g, rfl, hR, hB⟩
  obtain ⟨Ab, cb, A3, c3, hg, hge, hb, hc, ho⟩ := hR.cells
  have HB := Aside0.mk hB
  have hcz5 : w1.cell? ⟨g, 5, none⟩ = some (.int .i64 s.er) := (blk_cell hg 5).trans rfl
  have hcz4 : w1.cell? ⟨g, 4, none⟩ = some (.int .i64 s.bl) := (blk_cell hg 4).trans rfl
  clear hg hb ho hB hR
  have h := H.out
  by_cases h0 : s.er = 0
  · have d0 : (s.er != 0) = false := by rw [h0]; rfl
    rw [if_neg (by rw [h0]; simp)] at h
    injection h with h1 h2
    subst h1 h2
    go_wp2_with fail
    go_ret2
    exact ⟨rfl, HB.out⟩
  · have d0 : (s.er != 0) = true := bne_iff_ne.2 h0
    rw [if_pos h0] at h
    injection h with h1 h2
    subst h1 h2
    go_upto_region 3 with fail
    refine start_ (n := 6) (S := fun w' => w'.cell? ⟨g, 5, none⟩ = some (.int .i64 s.er)) (ds := []) #[false, false, false, false, false, false] (by kernel_rfl) rfl rfl (hcz5) (fun hHeld => ?_)
    refine pure_ (i := 0) (N := some 12) (v := ?_) (a' := ?_) #[true, false, false, false, false, false] rfl rfl (by kernel_rfl) (fun _ _ _ h => h) (Or.inl ⟨by rfl, ?_⟩) ?_ ?_
    rotate_left
    · intro w'
      go_simp
      with_reducible rfl
    rotate_left
    · simp only [Act.put, List.setIfInBounds_toArray, List.set_cons_zero, List.set_cons_succ, i64_w, i32_w]
      rfl
    refine pure_ (i := 1) (N := some 13) (v := ?_) (a' := ?_) #[true, true, false, false, false, false] rfl rfl (by kernel_rfl) (fun _ _ _ h => h) (Or.inl ⟨by rfl, ?_⟩) ?_ ?_
    rotate_left
    · intro w'
      go_simp
      with_reducible rfl
    rotate_left
    · simp only [Act.put, List.setIfInBounds_toArray, List.set_cons_zero, List.set_cons_succ, i64_w, i32_w]
      rfl
    refine pure_ (i := 2) (N := some 14) (v := ?_) (a' := ?_) #[true, true, true, false, false, false] rfl rfl (by kernel_rfl) (fun _ _ _ h => h) (Or.inl ⟨by rfl, ?_⟩) ?_ ?_
    rotate_left
    · intro w'
      go_simp
      with_reducible rfl
    rotate_left
    · simp only [Act.put, List.setIfInBounds_toArray, List.set_cons_zero, List.set_cons_succ, i64_w, i32_w]
      rfl
    refine pure_ (i := 4) (N := some 2) (v := ?_) (a' := ?_) #[true, true, true, false, true, false] rfl rfl (by kernel_rfl) (fun _ _ _ h => h) (Or.inl ⟨by rfl, ?_⟩) ?_ ?_
    rotate_left
    · intro w'
      go_simp
      with_reducible rfl
    rotate_left
    · simp only [Act.put, List.setIfInBounds_toArray, List.set_cons_zero, List.set_cons_succ, i64_w, i32_w]
      rfl
    refine take_ (i := 3) (N := some 15) (v := ?_) (a' := ?_) #[true, true, true, true, true, false] rfl rfl (by kernel_rfl) (fun _ _ _ h => h) (Or.inl ⟨by rfl, ?_⟩) hHeld ?_ ?_
    rotate_left
    · intro w' s0
      go_simp
      with_reducible rfl
    rotate_left
    · simp only [Act.put, List.setIfInBounds_toArray, List.set_cons_zero, List.set_cons_succ, i64_w, i32_w]
      rfl
    refine pure_ (i := 5) (N := some 3) (v := ?_) (a' := ?_) #[true, true, true, true, true, true] rfl rfl (by kernel_rfl) (fun _ _ _ h => h) (Or.inl ⟨by rfl, ?_⟩) ?_ ?_
    rotate_left
    · intro w'
      go_simp
      with_reducible rfl
    rotate_left
    · simp only [Act.put, List.setIfInBounds_toArray, List.set_cons_zero, List.set_cons_succ, i64_w, i32_w]
      rfl
    refine done_ (by kernel_rfl) ?_
    go_wp2_with fail
    go_ret2
    exact ⟨rfl, by first | exact HB.out | exact HB.out.drew⟩

-- PART
end Go.Proofs.Ytcjijhjdkgjgeaa.P
