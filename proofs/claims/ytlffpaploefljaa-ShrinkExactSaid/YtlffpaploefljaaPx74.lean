-- Written by a program of this session out of the translation. Lean checks it.
import Derived.Test.YtlffpaploefljaaExactW
import Derived.Test.YtlffpaploefljaaPx0
import Derived.Test.YtlffpaploefljaaPx23
import Derived.Test.YtlffpaploefljaaPx5
import Derived.Test.YtlffpaploefljaaPx54
import Derived.Test.YtlffpaploefljaaPx65
import Derived.Test.YtlffpaploefljaaPx71
namespace Go.Proofs.Ytlffpaploefljaa.P
open Go.RowKit Go.Proofs.YtlffpaploefljaaW.PrintWords Go.Proofs.YtlffpaploefljaaW.PrintLast Go.Proofs.YtlffpaploefljaaW.PrintMore
open List (setIfInBounds_toArray set_cons_zero set_cons_succ)
attribute [local go_sem] max2_int min2_int max_two min_two max_three min_three max_four min_four   -- for this text's walks alone
set_option linter.unusedVariables false
set_option linter.unusedSimpArgs false

/-! ### wherrylaw06_ShrinkExact: function 7 (by hand) -/
def wherrylaw06_ShrinkExact.f (l0 : List Int) : Option (Bool) := if ∀ x ∈ l0, 0 ≤ x ∧ x < 256 then some true else none
set_option maxHeartbeats 8000000 in
set_option maxRecDepth 100000 in
theorem wherrylaw06_ShrinkExact.calls (A0 : Option Addr) (c0 : Nat) (l0 : List Int) (r : Bool) (w : World) (hr0 : Kd.C (Kd.int .u8) w A0 l0.length l0) (hc0 : l0.length ≤ c0) (h : wherrylaw06_ShrinkExact.f l0 = some r) :
  Calls Try.prog 7 #[.slice A0 l0.length c0] w fun e w' => e = .returned (.bool r) ∧ Below w.heap.size w w' := by
 unfold wherrylaw06_ShrinkExact.f at h
 split at h
 rotate_left
 ·cases h
 rename_i hbt
 injection h with h
 subst h
 have HR := Aside0.mk hr0
 by_cases hlen : l0.length ≤ 1200
 rotate_left
 ·have d0 : decide ((1200 : Int) < (l0.length : Int)) = true := decide_eq_true (by omega)
  clear hr0
  go_enter Try.func7, Try.ntmps7
  go_wp2_with fail
  go_ret
  exact ⟨rfl, Below.refl _ _⟩
 have d0 : decide ((1200 : Int) < (l0.length : Int)) = false := decide_eq_false (by omega)
 obtain ⟨s, f, d, x, E⟩ := Glue.ex_all l0 hbt hlen
 have EX := Aside0.mk E
 clear E hbt hr0
 go_enter Try.func7, Try.ntmps7
 go_wp2_with fail
 refine (wherrykeep_Twin.calls A0 c0 l0 l0 w HR.out hc0 EX.out.tw).mono ?_
 rintro e w1 ⟨v1, rfl, ho, hb⟩
 obtain ⟨A1, c1, e1⟩ := Kd.R_slice ho
 subst e1
 have HI1 := Aside0.mk (Kd.R_mono (Kd.R_bound ho) (fun k hk => hk.2.2.1))
 have HB1 := Aside0.mk hb
 clear ho hb
 go_wp2_with fail
 refine (shrink_Stored.calls A1 c1 l0 s 0 w1 (Kd.R_reads' HI1.out).2.2 (Kd.R_reads' HI1.out).2.1 EX.out.fs).mono ?_
 rintro e w2 ⟨v2, rfl, ho, hb⟩
 obtain ⟨A2, c2, e1⟩ := Kd.R_slice ho
 subst e1
 have HI2 := Aside0.mk (Kd.R_below HI1.out hb)
 have HS2 := Aside0.mk (Kd.R_lower (Kd.R_mono (Kd.R_bound ho) (fun k hk => (⟨hk.2.1, hk.2.2.1⟩ : w1.heap.size ≤ k ∧ k < w2.heap.size))) HB1.out.size)
 have HB2 := Aside0.mk (below_then HB1.out HB1.out.size hb)
 have SZ2 := Aside0.mk hb.size
 clear ho hb HI1
 go_wp2_with fail
 refine (shrink_Fixed.calls A1 c1 l0 f 0 w2 (Kd.R_reads' HI2.out).2.2 (Kd.R_reads' HI2.out).2.1 EX.out.ff).mono ?_
 rintro e w3 ⟨v3, rfl, ho, hb⟩
 obtain ⟨A3, c3, e1⟩ := Kd.R_slice ho
 subst e1
 have HI3 := Aside0.mk (Kd.R_below HI2.out hb)
 have HS3 := Aside0.mk (Kd.R_below HS2.out hb)
 have HF3 := Aside0.mk (Kd.R_lower ho HB2.out.size)
 have HB3 := Aside0.mk (below_then HB2.out HB2.out.size hb)
 have SZ3 := Aside0.mk hb.size
 clear ho hb HI2 HS2
 go_wp2_with fail
 refine (shrink_Dynamic.calls A1 c1 l0 d 0 w3 (Kd.R_reads' HI3.out).2.2 (Kd.R_reads' HI3.out).2.1 EX.out.fd).mono ?_
 rintro e w4 ⟨v4, rfl, ho, hb⟩
 obtain ⟨A4, c4, e1⟩ := Kd.R_slice ho
 subst e1
 have HI4 := Aside0.mk (Kd.R_below HI3.out hb)
 have HS4 := Aside0.mk (Kd.R_below HS3.out hb)
 have HF4 := Aside0.mk (Kd.R_below HF3.out hb)
 have HD4 := Aside0.mk (Kd.R_lower ho HB3.out.size)
 have HB4 := Aside0.mk (below_then HB3.out HB3.out.size hb)
 have SZ4 := Aside0.mk hb.size
 clear ho hb HI3 HS3 HF3
 go_wp2_with fail
 refine (shrink_Shrink.calls A1 c1 l0 x 0 w4 (Kd.R_reads' HI4.out).2.2 (Kd.R_reads' HI4.out).2.1 EX.out.fx).mono ?_
 rintro e w5 ⟨v5, rfl, ho, hb⟩
 obtain ⟨A5, c5, e1⟩ := Kd.R_slice ho
 subst e1
 have HI5 := Aside0.mk (Kd.R_below HI4.out hb)
 have HS5 := Aside0.mk (Kd.R_below HS4.out hb)
 have HF5 := Aside0.mk (Kd.R_below HF4.out hb)
 have HD5 := Aside0.mk (Kd.R_below HD4.out hb)
 have HX5 := Aside0.mk (Kd.R_lower (Kd.R_mono (Kd.R_bound ho) (fun k hk => hk.2.1)) HB4.out.size)
 have HB5 := Aside0.mk (below_then HB4.out HB4.out.size hb)
 clear ho hb HI4 HS4 HF4 HD4
 have HI := HI5
 have HS := HS5
 have HF := HF5
 have HD := HD5
 have HX := HX5
 have HB := HB5
 clear HI5 HS5 HF5 HD5 HX5 HB5
 go_wp2_with fail
 refine (wherryref01_Block.calls A0 c0 l0 0 s w5 (Kd.C_below HR.out HB.out) hc0 EX.out.b0).mono ?_
 rintro e y0 ⟨vb, rfl, ho, hb⟩
 obtain ⟨Ab0, cb0, eb⟩ := Kd.R_slice ho
 subst eb
 replace HI := Aside0.mk (Kd.R_below HI.out hb)
 replace HS := Aside0.mk (Kd.R_below HS.out hb)
 replace HF := Aside0.mk (Kd.R_below HF.out hb)
 replace HD := Aside0.mk (Kd.R_below HD.out hb)
 replace HX := Aside0.mk (Kd.R_below HX.out hb)
 replace HB := Aside0.mk (below_then HB.out HB.out.size hb)
 have HO := Aside0.mk ho
 clear ho hb
 go_wp2_with fail
 refine (wherrykeep_Bytes.calls 1000000 A2 c2 s Ab0 cb0 s true y0 (Kd.R_reads' HS.out).2.2 (Kd.R_reads' HS.out).2.1 (Kd.R_reads' HO.out).2.2 (Kd.R_reads' HO.out).2.1 EX.out.ks).mono ?_
 rintro e z0 ⟨rfl, hd⟩
 have hb := hd.below
 replace HI := Aside0.mk (Kd.R_below HI.out hb)
 replace HS := Aside0.mk (Kd.R_below HS.out hb)
 replace HF := Aside0.mk (Kd.R_below HF.out hb)
 replace HD := Aside0.mk (Kd.R_below HD.out hb)
 replace HX := Aside0.mk (Kd.R_below HX.out hb)
 replace HB := Aside0.mk (below_then HB.out HB.out.size hb)
 clear hb hd HO
 go_wp2_with fail
 refine (wherryref01_Block.calls A0 c0 l0 1 f z0 (Kd.C_below HR.out HB.out) hc0 EX.out.b1).mono ?_
 rintro e y1 ⟨vb, rfl, ho, hb⟩
 obtain ⟨Ab1, cb1, eb⟩ := Kd.R_slice ho
 subst eb
 replace HI := Aside0.mk (Kd.R_below HI.out hb)
 replace HS := Aside0.mk (Kd.R_below HS.out hb)
 replace HF := Aside0.mk (Kd.R_below HF.out hb)
 replace HD := Aside0.mk (Kd.R_below HD.out hb)
 replace HX := Aside0.mk (Kd.R_below HX.out hb)
 replace HB := Aside0.mk (below_then HB.out HB.out.size hb)
 have HO := Aside0.mk ho
 clear ho hb
 go_wp2_with fail
 refine (wherrykeep_Bytes.calls 1000000 A3 c3 f Ab1 cb1 f true y1 (Kd.R_reads' HF.out).2.2 (Kd.R_reads' HF.out).2.1 (Kd.R_reads' HO.out).2.2 (Kd.R_reads' HO.out).2.1 EX.out.kf).mono ?_
 rintro e z1 ⟨rfl, hd⟩
 have hb := hd.below
 replace HI := Aside0.mk (Kd.R_below HI.out hb)
 replace HS := Aside0.mk (Kd.R_below HS.out hb)
 replace HF := Aside0.mk (Kd.R_below HF.out hb)
 replace HD := Aside0.mk (Kd.R_below HD.out hb)
 replace HX := Aside0.mk (Kd.R_below HX.out hb)
 replace HB := Aside0.mk (below_then HB.out HB.out.size hb)
 clear hb hd HO
 go_wp2_with fail
 refine (wherryref01_Block.calls A0 c0 l0 2 d z1 (Kd.C_below HR.out HB.out) hc0 EX.out.b2).mono ?_
 rintro e y2 ⟨vb, rfl, ho, hb⟩
 obtain ⟨Ab2, cb2, eb⟩ := Kd.R_slice ho
 subst eb
 replace HI := Aside0.mk (Kd.R_below HI.out hb)
 replace HS := Aside0.mk (Kd.R_below HS.out hb)
 replace HF := Aside0.mk (Kd.R_below HF.out hb)
 replace HD := Aside0.mk (Kd.R_below HD.out hb)
 replace HX := Aside0.mk (Kd.R_below HX.out hb)
 replace HB := Aside0.mk (below_then HB.out HB.out.size hb)
 have HO := Aside0.mk ho
 clear ho hb
 go_wp2_with fail
 refine (wherrykeep_Bytes.calls 1000000 A4 c4 d Ab2 cb2 d true y2 (Kd.R_reads' HD.out).2.2 (Kd.R_reads' HD.out).2.1 (Kd.R_reads' HO.out).2.2 (Kd.R_reads' HO.out).2.1 EX.out.kd).mono ?_
 rintro e z2 ⟨rfl, hd⟩
 have hb := hd.below
 replace HI := Aside0.mk (Kd.R_below HI.out hb)
 replace HS := Aside0.mk (Kd.R_below HS.out hb)
 replace HF := Aside0.mk (Kd.R_below HF.out hb)
 replace HD := Aside0.mk (Kd.R_below HD.out hb)
 replace HX := Aside0.mk (Kd.R_below HX.out hb)
 replace HB := Aside0.mk (below_then HB.out HB.out.size hb)
 clear hb hd HO
 go_wp2_with fail
 refine (wherryref01_Shrink.calls A0 c0 l0 x z2 (Kd.C_below HR.out HB.out) hc0 EX.out.b3).mono ?_
 rintro e y3 ⟨vb, rfl, ho, hb⟩
 obtain ⟨Ab3, cb3, eb⟩ := Kd.R_slice ho
 subst eb
 replace HI := Aside0.mk (Kd.R_below HI.out hb)
 replace HS := Aside0.mk (Kd.R_below HS.out hb)
 replace HF := Aside0.mk (Kd.R_below HF.out hb)
 replace HD := Aside0.mk (Kd.R_below HD.out hb)
 replace HX := Aside0.mk (Kd.R_below HX.out hb)
 replace HB := Aside0.mk (below_then HB.out HB.out.size hb)
 have HO := Aside0.mk ho
 clear ho hb
 go_wp2_with fail
 refine (wherrykeep_Bytes.calls 1000000 A5 c5 x Ab3 cb3 x true y3 (Kd.R_reads' HX.out).2.2 (Kd.R_reads' HX.out).2.1 (Kd.R_reads' HO.out).2.2 (Kd.R_reads' HO.out).2.1 EX.out.kx).mono ?_
 rintro e z3 ⟨rfl, hd⟩
 have hb := hd.below
 replace HI := Aside0.mk (Kd.R_below HI.out hb)
 replace HS := Aside0.mk (Kd.R_below HS.out hb)
 replace HF := Aside0.mk (Kd.R_below HF.out hb)
 replace HD := Aside0.mk (Kd.R_below HD.out hb)
 replace HX := Aside0.mk (Kd.R_below HX.out hb)
 replace HB := Aside0.mk (below_then HB.out HB.out.size hb)
 clear hb hd HO
 obtain ⟨rx, hrx⟩ := EX.out.ox
 obtain ⟨rs, hrs⟩ := EX.out.os
 have SZ := Aside0.mk (show w1.heap.size ≤ w2.heap.size ∧ w2.heap.size ≤ w4.heap.size from ⟨SZ2.out, Nat.le_trans SZ3.out SZ4.out⟩)
 clear SZ2 SZ3 SZ4 HF HD
 go_wp2_with fail
 refine (wherrykeep_Over.calls 1000000 (fun k => w4.heap.size ≤ k) (.slice A5 x.length c5) x rx w z3 HB.out HX.out hrx).mono ?_
 rintro e y8 ⟨rfl, _, hB, hK⟩
 replace HI := Aside0.mk (Kd.R_step HI.out (fun k hk hlt => hK.2 k hlt (by have := SZ.out; omega)))
 replace HS := Aside0.mk (Kd.R_step HS.out (fun k hk hlt => hK.2 k hlt (by have := SZ.out; omega)))
 replace HB := Aside0.mk hB
 clear hB hK HX hrx
 go_wp2_with fail
 refine (wherrykeep_Over.calls 1000000 (fun k => w1.heap.size ≤ k) (.slice A2 s.length c2) s rs w y8 HB.out (Kd.R_mono HS.out (fun k hk => hk.1)) hrs).mono ?_
 rintro e y9 ⟨rfl, _, hB, hK⟩
 replace HI := Aside0.mk (Kd.R_step HI.out (fun k hk hlt => hK.2 k hlt (by omega)))
 replace HB := Aside0.mk hB
 clear hB hK HS hrs
 go_wp2_with fail
 refine (wherrykeep_Bytes.calls 1000000 A1 c1 l0 A0 c0 l0 true y9 (Kd.R_reads' HI.out).2.2 (Kd.R_reads' HI.out).2.1 (Kd.C_below HR.out HB.out) hc0 EX.out.kb).mono ?_
 rintro e z9 ⟨rfl, hd⟩
 replace HB := Aside0.mk (below_then HB.out HB.out.size hd.below)
 clear hd HI
 go_wp2_with fail
 refine (wherrylaw06_wakes.calls true z9 rfl).mono ?_
 rintro e yf ⟨rfl, hb⟩
 replace HB := Aside0.mk (below_then HB.out HB.out.size hb)
 clear hb
 go_wp2_with fail
 go_ret
 exact ⟨rfl, HB.out⟩
/-- The pure statement of the law. -/
def wherrylaw06_ShrinkExact.Pure : Prop := ∀ (l0 : List Int), l0.length ≤ maxLen → l0.length * 1 ≤ 140737488351232 → (∀ x ∈ l0, (Lit.int .u8 x).wf = true) → wherrylaw06_ShrinkExact.f l0 = some true
theorem wherrylaw06_ShrinkExact.walk (P : wherrylaw06_ShrinkExact.Pure) (a0 : Option Addr) (len0 cap0 : Nat) (z0 : List Int) (w : World) (w0 : (a0 = none ∧ len0 = 0 ∧ cap0 = 0 ∧ z0 = []) ∨ ∃ x, a0 = some x ∧ len0 ≤ cap0 ∧ cap0 ≤ maxLen ∧ z0.length = cap0 ∧ (∀ i, i < z0.length → w.cell? (x.add i) = some (.int .u8 (z0.getD i 0))) ∧ ∀ n ∈ z0, (Lit.int .u8 n).wf = true) (y0 : len0 * 1 ≤ 140737488351232) :
  Calls Try.prog 7 #[.slice a0 len0 cap0] w fun e w' => e = .returned (.bool true) ∧ Below w.heap.size w w' := by
 obtain ⟨l0, rfl, hr0, hm0, hw0, hc0⟩ := ReadsInt.ofRowC w0
 refine (wherrylaw06_ShrinkExact.calls _ _ l0 true w (Kd.C_of_reads (d := (0 : Int)) (h1 := fun _ => rfl) hr0) hc0 (P l0 hm0 y0 hw0)).mono ?_
 rintro e w' ⟨rfl, hd⟩
 exact ⟨rfl, hd⟩

end Go.Proofs.Ytlffpaploefljaa.P
