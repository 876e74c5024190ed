-- Written by a program of this session out of the translation. Lean checks it.
import Derived.Test.YtlffpaploefljaaPx0
import Derived.Test.YtlffpaploefljaaPx1
import Derived.Test.YtlffpaploefljaaPx10
namespace Go.Proofs.Ytlffpaploefljaa.P
open Go.RowKit Go.Proofs.YtlffpaploefljaaW.PrintWords Go.Proofs.YtlffpaploefljaaW.PrintLast Go.Proofs.YtlffpaploefljaaW.PrintMore
open List (setIfInBounds_toArray set_cons_zero set_cons_succ)
attribute [local go_sem] max2_int min2_int max_two min_two max_three min_three max_four min_four   -- for this text's walks alone
set_option linter.unusedVariables false
set_option linter.unusedSimpArgs false

/-! ### shrink_Fixed: function 23 (by hand) -/
def shrink_Fixed.f (l0 : List Int) : Option (List Int × Int) := (match_Tokens.f l0).bind fun t => if t.2 = 0 then (if t.1.length ≤ 1000000 then (knownS t.1).bind fun s => some (s.1, 0) else none) else some ([], t.2)
set_option maxHeartbeats 4000000 in
set_option maxRecDepth 100000 in
theorem shrink_Fixed.calls (A0 : Option Addr) (c0 : Nat) (l0 : List Int) (r1 : List Int) (r2 : Int) (w : World) (hr0 : Kd.C (Kd.int .u8) w A0 l0.length l0) (hc0 : l0.length ≤ c0) (h : shrink_Fixed.f l0 = some (r1, r2)) :
  Calls Try.prog 23 #[.slice A0 l0.length c0] w fun e w' => ∃ v0_ : Value, e = .returned (.tuple #[v0_, .int .i64 r2]) ∧ Kd.R (Kd.int .u8) 5 w' w.heap.size (fun _ => True) v0_ r1 ∧ Below w.heap.size w w' := by
 unfold shrink_Fixed.f at h
 obtain ⟨⟨t, e0⟩, h1, h⟩ := Option.bind_eq_some_iff.1 h
 simp only at h
 have H1 := Aside0.mk h1
 have H := Aside0.mk h
 have HR := Aside0.mk hr0
 clear h1 h hr0
 go_enter Try.func23, Try.ntmps23
 go_wp2_with fail
 refine (match_Tokens.calls A0 c0 l0 t e0 w HR.out hc0 H1.out).mono ?_
 rintro e w1 ⟨v1, rfl, ho, hb⟩
 obtain ⟨A1, c1, e1⟩ := Kd.R_slice ho
 subst e1
 obtain ⟨r1, _, hc1⟩ := readsT_own ho
 have HR1 := Aside0.mk r1
 have HB1 := Aside0.mk hb
 have h := H.out
 clear ho r1 hb H
 by_cases h0 : e0 = 0
 rotate_left
 ·have d0 : (e0 != 0) = true := bne_iff_ne.2 h0
  rw [if_neg h0] at h
  injection h with h
  injection h with h1 h2
  subst h1 h2
  go_wp2_with fail
  go_ret2
  exact ⟨_, rfl, Kd.R_nil _ _ _ _ _, HB1.out⟩
 have d0 : (e0 != 0) = false := by rw [h0]; rfl
 rw [if_pos h0] at h
 split at h
 rotate_left
 ·cases h
 rename_i hl
 obtain ⟨s, hs, h⟩ := Option.bind_eq_some_iff.1 h
 injection h with h
 injection h with h1 h2
 subst h1 h2
 have HS := Aside0.mk hs
 clear hs
 go_wp2_with fail
 refine (shr_known A1 c1 t s w1 HR1.out hc1 hl HS.out).mono ?_
 rintro e w2 ⟨g, rfl, hP, hB⟩
 obtain ⟨v, hg, hge, ho⟩ := hP
 have hcz : w2.cell? ⟨g, 0, none⟩ = some v := (blk_cell hg 0).trans rfl
 have HO := Aside0.mk (Kd.R_lower ho HB1.out.size)
 have HB := Aside0.mk (below_then HB1.out HB1.out.size hB)
 clear ho hB hg
 go_wp2_with fail
 go_ret2
 exact ⟨v, rfl, HO.out, HB.out⟩

end Go.Proofs.Ytlffpaploefljaa.P
