-- Written by a program of this session out of the translation. Lean checks it.
import Derived.Test.YtlffpaploefljaaPx0
import Derived.Test.YtlffpaploefljaaPx1
import Derived.Test.YtlffpaploefljaaPx10
import Derived.Test.YtlffpaploefljaaPx39
import Derived.Test.YtlffpaploefljaaPx45
import Derived.Test.YtlffpaploefljaaPx51
import Derived.Test.YtlffpaploefljaaPx69
import Derived.Test.YtlffpaploefljaaPx71
namespace Go.Proofs.Ytlffpaploefljaa.P
open Go.RowKit Go.Proofs.YtlffpaploefljaaW.PrintWords Go.Proofs.YtlffpaploefljaaW.PrintLast Go.Proofs.YtlffpaploefljaaW.PrintMore
open List (setIfInBounds_toArray set_cons_zero set_cons_succ)
attribute [local go_sem] max2_int min2_int max_two min_two max_three min_three max_four min_four   -- for this text's walks alone
set_option linter.unusedVariables false
set_option linter.unusedSimpArgs false

/-! ### shrink_Dynamic: function 21 (by hand) -/
def shrink_Dynamic.f (l0 : List Int) : Option (List Int × Int) := (match_Tokens.f l0).bind fun t => if t.2 = 0 then (if t.1.length ≤ 1000000 then (madeS t.1).bind fun s => some (s.1, 0) else none) else some ([], t.2)
set_option maxHeartbeats 4000000 in
set_option maxRecDepth 100000 in
theorem shrink_Dynamic.calls (A0 : Option Addr) (c0 : Nat) (l0 : List Int) (r1 : List Int) (r2 : Int) (w : World) (hr0 : Kd.C (Kd.int .u8) w A0 l0.length l0) (hc0 : l0.length ≤ c0) (h : shrink_Dynamic.f l0 = some (r1, r2)) :
  Calls Try.prog 21 #[.slice A0 l0.length c0] w fun e w' => ∃ v0_ : Value, e = .returned (.tuple #[v0_, .int .i64 r2]) ∧ Kd.R (Kd.int .u8) 5 w' w.heap.size (fun _ => True) v0_ r1 ∧ Below w.heap.size w w' := by
 unfold shrink_Dynamic.f at h
 obtain ⟨⟨t, e0⟩, h1, h⟩ := Option.bind_eq_some_iff.1 h
 simp only at h
 have H1 := Aside0.mk h1
 have H := Aside0.mk h
 have HR := Aside0.mk hr0
 clear h1 h hr0
 go_enter Try.func21, Try.ntmps21
 go_wp2_with fail
 refine (match_Tokens.calls A0 c0 l0 t e0 w HR.out hc0 H1.out).mono ?_
 rintro e w1 ⟨v1, rfl, ho, hb⟩
 obtain ⟨A1, c1, e1⟩ := Kd.R_slice ho
 subst e1
 obtain ⟨r1, _, hc1⟩ := readsT_own ho
 have HR1 := Aside0.mk r1
 have HB1 := Aside0.mk hb
 have h := H.out
 clear ho r1 hb H
 by_cases h0 : e0 = 0
 rotate_left
 ·have d0 : (e0 != 0) = true := bne_iff_ne.2 h0
  rw [if_neg h0] at h
  injection h with h
  injection h with h1 h2
  subst h1 h2
  go_wp2_with fail
  go_ret2
  exact ⟨_, rfl, Kd.R_nil _ _ _ _ _, HB1.out⟩
 have d0 : (e0 != 0) = false := by rw [h0]; rfl
 rw [if_pos h0] at h
 split at h
 rotate_left
 ·cases h
 rename_i hl
 obtain ⟨s, hs, h⟩ := Option.bind_eq_some_iff.1 h
 injection h with h
 injection h with h1 h2
 subst h1 h2
 have HS := Aside0.mk hs
 clear hs
 go_wp2_with fail
 refine (shr_made A1 c1 t s w1 HR1.out hc1 hl HS.out).mono ?_
 rintro e w2 ⟨g, rfl, hP, hB⟩
 obtain ⟨v, hg, hge, ho⟩ := hP
 have hcz : w2.cell? ⟨g, 0, none⟩ = some v := (blk_cell hg 0).trans rfl
 have HO := Aside0.mk (Kd.R_lower ho HB1.out.size)
 have HB := Aside0.mk (below_then HB1.out HB1.out.size hB)
 clear ho hB hg
 go_wp2_with fail
 go_ret2
 exact ⟨v, rfl, HO.out, HB.out⟩

/-! ### wherrylaw06_ShrinkBack: function 8 -/
mutual
def wherrylaw06_ShrinkBack.l0 : Nat → List Int → Int → Option (Bool)
 | 0, _, _ => none
 | k + 1, x0, x3 => if x3 < 4 then (if x3 = 0 then ((shrink_Stored.f x0).bind fun bt256 => (wherrylaw06_ShrinkBack.j1 k x0 x3 bt256.1 bt256.2)) else (if x3 = 1 then ((shrink_Fixed.f x0).bind fun bt260 => (wherrylaw06_ShrinkBack.j1 k x0 x3 bt260.1 bt260.2)) else (if x3 = 2 then ((shrink_Dynamic.f x0).bind fun bt264 => (wherrylaw06_ShrinkBack.j1 k x0 x3 bt264.1 bt264.2)) else ((shrink_Shrink.f x0).bind fun bt268 => (wherrylaw06_ShrinkBack.j1 k x0 x3 bt268.1 bt268.2))))) else ((wherrylaw06_wakes.f).bind fun t255 => (some t255))
def wherrylaw06_ShrinkBack.j1 : Nat → List Int → Int → List Int → Int → Option (Bool)
 | 0, _, _, _, _ => none
 | k + 1, x0, x3, x4, x5 => (wherryref01_Grow.f x4 4096).bind fun bt272 => (if x5 = 0 then (if bt272.2.2 = 0 then (if bt272.2.1 = 1 then ((wherrykeep_Bytes.f k bt272.1 x0).bind fun t277 => (if t277 = true then (wherrylaw06_ShrinkBack.l0 k x0 (wrap64 (x3 + 1))) else (none))) else (none)) else (none)) else (none))
end
def wherrylaw06_ShrinkBack.f (k : Nat) (l0 : List Int) : Option (Bool) := if (l0.length : Int) > 1200 then (some true) else (wherrylaw06_ShrinkBack.l0 k l0 0)
set_option maxHeartbeats 8000000 in
set_option maxRecDepth 100000 in
theorem wherrylaw06_ShrinkBack.calls (k : Nat) (A0 : Option Addr) (c0 : Nat) (l0 : List Int) (r : Bool) (w : World) (hr0 : Kd.C (Kd.int .u8) w A0 l0.length l0) (hc0 : l0.length ≤ c0) (h : wherrylaw06_ShrinkBack.f k l0 = some r) :
  Calls Try.prog 8 #[.slice A0 l0.length c0] w fun e w' => e = .returned (.bool r) ∧ Below w.heap.size w w' := by
 have HR0 := Aside0.mk hr0
 have HC0 := Aside0.mk hc0
 clear hr0 hc0
 have HB := Aside0.mk (Below.refl w.heap.size w)
 have H : (if (l0.length : Int) > 1200 then (some true) else (wherrylaw06_ShrinkBack.l0 k l0 0)) = some r := h
 clear h
 by_cases c2 : (l0.length : Int) > 1200
 ·rw [if_pos c2] at H
  have c2b0 : decide (1200 < (l0.length : Int)) = true := decide_eq_true c2
  have c2b1 : decide (1200 < l0.length) = true := decide_eq_true (by omega)
  clear c2
  obtain rfl := Option.some.inj H
  go_enter Try.func8, Try.ntmps8
  go_wp2
  go_ret
  exact ⟨by first | rfl | (simp [errW_none, errW_some] <;> rfl) | (simp [*, errW_none, errW_some] <;> rfl), by repeat (first | (with_reducible first | exact HB.out | apply below_alloc | apply pw_below_drewN | apply below_drew1) | exact HB.out)⟩
 ·rw [if_neg c2] at H
  have c2b0 : decide (1200 < (l0.length : Int)) = false := decide_eq_false c2
  have c2b1 : decide (1200 < l0.length) = false := decide_eq_false (by omega)
  clear c2
  have H' := Aside0.mk H
  clear H
  go_enter Try.func8, Try.ntmps8
  go_wp2
  go_loopg [3] k (fun kq v3 w' => ∃ (x3_1 : Int), v3 = .int .i64 x3_1 ∧ Aside0 (wherrylaw06_ShrinkBack.l0 kq l0 x3_1 = some r) ∧ Aside0 (kq ≤ k) ∧ Aside0 (Below w.heap.size w w'))
  case atStart => exact ⟨(0), (by first | rfl | (simp; done) | (simp [*]; done)), H', ⟨Nat.le_refl _⟩, ⟨by repeat (first | (with_reducible first | exact HB.out | apply below_alloc | apply pw_below_drewN | apply below_drew1) | exact HB.out)⟩⟩
  case round =>
   clear H'
   try clear c2
   try clear c2b0
   try clear c2b1
   try clear p2
   obtain ⟨x3_1, rfl, HA, HK1, HB⟩ := hrel
   cases gk with
   | zero => exact absurd HA.out (by simp [wherrylaw06_ShrinkBack.l0])
   | succ k1 =>
    have H := HA.out
    clear HA
    simp only [wherrylaw06_ShrinkBack.l0] at H
    by_cases c3 : x3_1 < 4
    ·rw [if_pos c3] at H
     have c3b0 : decide (x3_1 < 4) = true := decide_eq_true c3
     clear c3
     have HC4 := Aside0.mk H
     clear H
     go_upto_block 2 with (fail)
     go_cut [4, 5] (fun v4 v5 wc => ∃ (kq : Nat) (x4_3 : List Int) (x5_3 : Int), v5 = .int .i64 x5_3 ∧ Aside0 (wherrylaw06_ShrinkBack.j1 kq l0 x3_1 x4_3 x5_3 = some r) ∧ Aside0 (kq ≤ k1) ∧ Aside0 (Kd.R (Kd.int .u8) 5 wc w.heap.size (fun _ => True) v4 x4_3) ∧ Aside0 (Below w.heap.size w wc))
     case first =>
      have H := HC4.out
      clear HC4
      by_cases c5 : x3_1 = 0
      ·rw [if_pos c5] at H
       have c5b0 : (x3_1 == 0) = true := beq_iff_eq.mpr c5
       have c5b1 : (x3_1 != 0) = false := bne_eq_false_iff_eq.mpr c5
       clear c5
       (first | rw [c5b0] | (simp only [i64_w, i32_w]; rw [c5b0]) | skip)
       replace H := Option.bind_eq_some_iff.mp H
       obtain ⟨⟨t256, t257⟩, A60, H⟩ := H
       replace H : (wherrylaw06_ShrinkBack.j1 k1 l0 x3_1 t256 t257) = some r := H
       have A6 := Aside0.mk A60
       clear A60
       have H' := Aside0.mk H
       clear H
       go_wp2_with (first | ((with_reducible refine gate_callee (f := 13) rfl ?_); refine goesL_ (some 26) rfl rfl Try.func13 (by kernel_rfl) rfl #[.slice A0 l0.length c0] rfl (by (try simp only [List.map_toArray, List.map_cons, List.map_nil]); first | done | rfl | (simp only [List.length_drop, List.length_take]; rfl)) ?_; (with_reducible refine (shrink_Stored.calls _ _ l0 t256 t257 _ ?side1 ?side2 A6.out).mono ?_); (case side1 => repeat (first | exact (Kd.C_below HR0.out HB.out) | (with_reducible refine Kd.C_alloc ?_ _) | (with_reducible refine Kd.C_drewN ?_ _) | (with_reducible refine Kd.C_drew ?_))); (case side2 => exact HC0.out); rintro e w7 ⟨v258, rfl, ho0, hb⟩; refine ⟨_, rfl, ?_⟩; have n0_ := Aside0.mk (Kd.R_lower ho0 (below_size (by repeat (first | (with_reducible first | exact HB.out | apply below_alloc | apply pw_below_drewN | apply below_drew1) | exact HB.out)))); have n1_ := Aside0.mk (below_step (by repeat (first | (with_reducible first | exact HB.out | apply below_alloc | apply pw_below_drewN | apply below_drew1) | exact HB.out)) hb); clear HB; have HO259 := n0_; have HB := n1_; clear n0_ n1_; (try clear hb); (try clear hb2); (try clear hk); (try clear hi); (try clear ho0)))
       go_meet
       case rel => exact ⟨_, (t256), (t257), (by first | rfl | (simp; done) | (simp [*]; done)), H', ⟨by have := HK1.out; first | omega | exact Nat.le_refl _⟩, ⟨by (with_reducible repeat (first | apply Kd.R_alloc | apply Kd.R_drewN | apply Kd.R_drew)); exact HO259.out⟩, ⟨by repeat (first | (with_reducible first | exact HB.out | apply below_alloc | apply pw_below_drewN | apply below_drew1) | exact HB.out)⟩⟩
      ·rw [if_neg c5] at H
       have c5b0 : (x3_1 == 0) = false := beq_eq_false_iff_ne.mpr c5
       have c5b1 : (x3_1 != 0) = true := bne_iff_ne.mpr c5
       (first | rw [c5b0] | (simp only [i64_w, i32_w]; rw [c5b0]) | skip)
       by_cases c8 : x3_1 = 1
       ·rw [if_pos c8] at H
        have c8b0 : (x3_1 == 1) = true := beq_iff_eq.mpr c8
        have c8b1 : (x3_1 != 1) = false := bne_eq_false_iff_eq.mpr c8
        clear c8
        replace H := Option.bind_eq_some_iff.mp H
        obtain ⟨⟨t260, t261⟩, A90, H⟩ := H
        replace H : (wherrylaw06_ShrinkBack.j1 k1 l0 x3_1 t260 t261) = some r := H
        have A9 := Aside0.mk A90
        clear A90
        have H' := Aside0.mk H
        clear H
        go_wp2_with (first | ((with_reducible refine gate_callee (f := 23) rfl ?_); refine goesL_ (some 33) rfl rfl Try.func23 (by kernel_rfl) rfl #[.slice A0 l0.length c0] rfl (by (try simp only [List.map_toArray, List.map_cons, List.map_nil]); first | done | rfl | (simp only [List.length_drop, List.length_take]; rfl)) ?_; (with_reducible refine (shrink_Fixed.calls _ _ l0 t260 t261 _ ?side1 ?side2 A9.out).mono ?_); (case side1 => repeat (first | exact (Kd.C_below HR0.out HB.out) | (with_reducible refine Kd.C_alloc ?_ _) | (with_reducible refine Kd.C_drewN ?_ _) | (with_reducible refine Kd.C_drew ?_))); (case side2 => exact HC0.out); rintro e w10 ⟨v262, rfl, ho0, hb⟩; refine ⟨_, rfl, ?_⟩; have n0_ := Aside0.mk (Kd.R_lower ho0 (below_size (by repeat (first | (with_reducible first | exact HB.out | apply below_alloc | apply pw_below_drewN | apply below_drew1) | exact HB.out)))); have n1_ := Aside0.mk (below_step (by repeat (first | (with_reducible first | exact HB.out | apply below_alloc | apply pw_below_drewN | apply below_drew1) | exact HB.out)) hb); clear HB; have HO263 := n0_; have HB := n1_; clear n0_ n1_; (try clear hb); (try clear hb2); (try clear hk); (try clear hi); (try clear ho0)))
        go_meet
        case rel => exact ⟨_, (t260), (t261), (by first | rfl | (simp; done) | (simp [*]; done)), H', ⟨by have := HK1.out; first | omega | exact Nat.le_refl _⟩, ⟨by (with_reducible repeat (first | apply Kd.R_alloc | apply Kd.R_drewN | apply Kd.R_drew)); exact HO263.out⟩, ⟨by repeat (first | (with_reducible first | exact HB.out | apply below_alloc | apply pw_below_drewN | apply below_drew1) | exact HB.out)⟩⟩
       ·rw [if_neg c8] at H
        have c8b0 : (x3_1 == 1) = false := beq_eq_false_iff_ne.mpr c8
        have c8b1 : (x3_1 != 1) = true := bne_iff_ne.mpr c8
        by_cases c11 : x3_1 = 2
        ·rw [if_pos c11] at H
         have c11b0 : (x3_1 == 2) = true := beq_iff_eq.mpr c11
         have c11b1 : (x3_1 != 2) = false := bne_eq_false_iff_eq.mpr c11
         clear c11
         replace H := Option.bind_eq_some_iff.mp H
         obtain ⟨⟨t264, t265⟩, A120, H⟩ := H
         replace H : (wherrylaw06_ShrinkBack.j1 k1 l0 x3_1 t264 t265) = some r := H
         have A12 := Aside0.mk A120
         clear A120
         have H' := Aside0.mk H
         clear H
         go_wp2_with (first | ((with_reducible refine gate_callee (f := 21) rfl ?_); refine goesL_ (some 40) rfl rfl Try.func21 (by kernel_rfl) rfl #[.slice A0 l0.length c0] rfl (by (try simp only [List.map_toArray, List.map_cons, List.map_nil]); first | done | rfl | (simp only [List.length_drop, List.length_take]; rfl)) ?_; (with_reducible refine (shrink_Dynamic.calls _ _ l0 t264 t265 _ ?side1 ?side2 A12.out).mono ?_); (case side1 => repeat (first | exact (Kd.C_below HR0.out HB.out) | (with_reducible refine Kd.C_alloc ?_ _) | (with_reducible refine Kd.C_drewN ?_ _) | (with_reducible refine Kd.C_drew ?_))); (case side2 => exact HC0.out); rintro e w13 ⟨v266, rfl, ho0, hb⟩; refine ⟨_, rfl, ?_⟩; have n0_ := Aside0.mk (Kd.R_lower ho0 (below_size (by repeat (first | (with_reducible first | exact HB.out | apply below_alloc | apply pw_below_drewN | apply below_drew1) | exact HB.out)))); have n1_ := Aside0.mk (below_step (by repeat (first | (with_reducible first | exact HB.out | apply below_alloc | apply pw_below_drewN | apply below_drew1) | exact HB.out)) hb); clear HB; have HO267 := n0_; have HB := n1_; clear n0_ n1_; (try clear hb); (try clear hb2); (try clear hk); (try clear hi); (try clear ho0)))
         go_meet
         case rel => exact ⟨_, (t264), (t265), (by first | rfl | (simp; done) | (simp [*]; done)), H', ⟨by have := HK1.out; first | omega | exact Nat.le_refl _⟩, ⟨by (with_reducible repeat (first | apply Kd.R_alloc | apply Kd.R_drewN | apply Kd.R_drew)); exact HO267.out⟩, ⟨by repeat (first | (with_reducible first | exact HB.out | apply below_alloc | apply pw_below_drewN | apply below_drew1) | exact HB.out)⟩⟩
        ·rw [if_neg c11] at H
         have c11b0 : (x3_1 == 2) = false := beq_eq_false_iff_ne.mpr c11
         have c11b1 : (x3_1 != 2) = true := bne_iff_ne.mpr c11
         replace H := Option.bind_eq_some_iff.mp H
         obtain ⟨⟨t268, t269⟩, A140, H⟩ := H
         replace H : (wherrylaw06_ShrinkBack.j1 k1 l0 x3_1 t268 t269) = some r := H
         have A14 := Aside0.mk A140
         clear A140
         have H' := Aside0.mk H
         clear H
         go_wp2_with (first | ((with_reducible refine gate_callee (f := 12) rfl ?_); refine goesL_ (some 19) rfl rfl Try.func12 (by kernel_rfl) rfl #[.slice A0 l0.length c0] rfl (by (try simp only [List.map_toArray, List.map_cons, List.map_nil]); first | done | rfl | (simp only [List.length_drop, List.length_take]; rfl)) ?_; (with_reducible refine (shrink_Shrink.calls _ _ l0 t268 t269 _ ?side1 ?side2 A14.out).mono ?_); (case side1 => repeat (first | exact (Kd.C_below HR0.out HB.out) | (with_reducible refine Kd.C_alloc ?_ _) | (with_reducible refine Kd.C_drewN ?_ _) | (with_reducible refine Kd.C_drew ?_))); (case side2 => exact HC0.out); rintro e w15 ⟨v270, rfl, ho0, hb⟩; refine ⟨_, rfl, ?_⟩; have n0_ := Aside0.mk (Kd.R_lower ho0 (below_size (by repeat (first | (with_reducible first | exact HB.out | apply below_alloc | apply pw_below_drewN | apply below_drew1) | exact HB.out)))); have n1_ := Aside0.mk (below_step (by repeat (first | (with_reducible first | exact HB.out | apply below_alloc | apply pw_below_drewN | apply below_drew1) | exact HB.out)) hb); clear HB; have HO271 := n0_; have HB := n1_; clear n0_ n1_; (try clear hb); (try clear hb2); (try clear hk); (try clear hi); (try clear ho0)))
         go_meet
         case rel => exact ⟨_, (t268), (t269), (by first | rfl | (simp; done) | (simp [*]; done)), H', ⟨by have := HK1.out; first | omega | exact Nat.le_refl _⟩, ⟨by (with_reducible repeat (first | apply Kd.R_alloc | apply Kd.R_drewN | apply Kd.R_drew)); exact HO271.out⟩, ⟨by repeat (first | (with_reducible first | exact HB.out | apply below_alloc | apply pw_below_drewN | apply below_drew1) | exact HB.out)⟩⟩
     case rest =>
      clear HC4
      try clear c1
      try clear c2
      try clear c2b0
      try clear c2b1
      try clear p2
      try clear c3
      try clear c3b0
      try clear c5
      try clear c5b0
      try clear c5b1
      try clear c8
      try clear c8b0
      try clear c8b1
      try clear c11
      try clear c11b0
      try clear c11b1
      try clear c12
      try clear c13
      try clear p2
      obtain ⟨kq, x4_3, x5_3, rfl, HA, HJ3, HO_4, HB⟩ := hcut
      cases kq with
      | zero => exact absurd HA.out (by simp [wherrylaw06_ShrinkBack.j1])
      | succ kj3 =>
       have H := HA.out
       clear HA
       simp only [wherrylaw06_ShrinkBack.j1] at H
       replace H := Option.bind_eq_some_iff.mp H
       obtain ⟨⟨t272, t273, t274⟩, A160, H⟩ := H
       replace H : (if x5_3 = 0 then (if t274 = 0 then (if t273 = 1 then ((wherrykeep_Bytes.f kj3 t272 l0).bind fun t277 => (if t277 = true then (wherrylaw06_ShrinkBack.l0 kj3 l0 (wrap64 (x3_1 + 1))) else (none))) else (none)) else (none)) else (none)) = some r := H
       have A16 := Aside0.mk A160
       clear A160
       by_cases c17 : x5_3 = 0
       ·rw [if_pos c17] at H
        have c17b0 : (x5_3 == 0) = true := beq_iff_eq.mpr c17
        have c17b1 : (x5_3 != 0) = false := bne_eq_false_iff_eq.mpr c17
        clear c17
        by_cases c18 : t274 = 0
        ·rw [if_pos c18] at H
         have c18b0 : (t274 == 0) = true := beq_iff_eq.mpr c18
         have c18b1 : (t274 != 0) = false := bne_eq_false_iff_eq.mpr c18
         clear c18
         by_cases c19 : t273 = 1
         ·rw [if_pos c19] at H
          have c19b0 : (t273 == 1) = true := beq_iff_eq.mpr c19
          have c19b1 : (t273 != 1) = false := bne_eq_false_iff_eq.mpr c19
          clear c19
          replace H := Option.bind_eq_some_iff.mp H
          obtain ⟨t277, A200, H⟩ := H
          replace H : (if t277 = true then (wherrylaw06_ShrinkBack.l0 kj3 l0 (wrap64 (x3_1 + 1))) else (none)) = some r := H
          have A20 := Aside0.mk A200
          clear A200
          by_cases c21 : t277 = true
          ·subst c21
           have H1 : (wherrylaw06_ShrinkBack.l0 kj3 l0 (wrap64 (x3_1 + 1))) = some r := by rw [if_pos rfl] at H; exact H
           clear H
           have H := H1
           clear H1
           have H' := Aside0.mk H
           clear H
           obtain ⟨Ao22, co22, eo22⟩ := Kd.R_slice HO_4.out
           subst eo22
           go_wp2_with (first | ((with_reducible refine gate_callee (f := 15) rfl ?_); refine goesL_ (some 45) rfl rfl Try.func15 (by kernel_rfl) rfl #[.slice Ao22 x4_3.length co22, .int .i64 4096] rfl (by (try simp only [List.map_toArray, List.map_cons, List.map_nil]); first | done | rfl | (simp only [List.length_drop, List.length_take]; rfl)) ?_; (with_reducible refine (wherryref01_Grow.calls _ _ x4_3 4096 t272 t273 t274 _ ?side1 ?side2 A16.out).mono ?_); (case side1 => repeat (first | exact (Kd.R_reads' HO_4.out).2.2 | (with_reducible refine Kd.C_alloc ?_ _) | (with_reducible refine Kd.C_drewN ?_ _) | (with_reducible refine Kd.C_drew ?_))); (case side2 => exact (Kd.R_reads' HO_4.out).2.1); rintro e w23 ⟨v275, rfl, ho0, hb⟩; refine ⟨_, rfl, ?_⟩; have n0_ := Aside0.mk (Kd.R_elder' (by (with_reducible repeat (first | apply Kd.R_alloc | apply Kd.R_drewN | apply Kd.R_drew)); exact HO_4.out) (Kd.R_base ho0) hb); have n1_ := Aside0.mk (Kd.R_lower (Kd.R_new' ho0 (Kd.R_lt (by (with_reducible repeat (first | apply Kd.R_alloc | apply Kd.R_drewN | apply Kd.R_drew)); exact HO_4.out))) (below_size (by repeat (first | (with_reducible first | exact HB.out | apply below_alloc | apply pw_below_drewN | apply below_drew1) | exact HB.out)))); have n2_ := Aside0.mk (below_step (by repeat (first | (with_reducible first | exact HB.out | apply below_alloc | apply pw_below_drewN | apply below_drew1) | exact HB.out)) hb); clear HO_4; clear HB; have HO_4 := n0_; have HO276 := n1_; have HB := n2_; clear n0_ n1_ n2_; (try clear hb); (try clear hb2); (try clear hk); (try clear hi); (try clear ho0); obtain ⟨Ao24, co24, eo24⟩ := Kd.R_slice HO276.out; subst eo24) | (go_at_call 16; (with_reducible refine (wherrykeep_Bytes.calls kj3 _ _ t272 _ _ l0 true _ ?side1 ?side2 ?side3 ?side4 A20.out).mono ?_); (case side1 => repeat (first | exact (Kd.R_reads' HO276.out).2.2 | (with_reducible refine Kd.C_alloc ?_ _) | (with_reducible refine Kd.C_drewN ?_ _) | (with_reducible refine Kd.C_drew ?_))); (case side2 => exact (Kd.R_reads' HO276.out).2.1); (case side3 => repeat (first | exact (Kd.C_below HR0.out HB.out) | (with_reducible refine Kd.C_alloc ?_ _) | (with_reducible refine Kd.C_drewN ?_ _) | (with_reducible refine Kd.C_drew ?_))); (case side4 => exact HC0.out); rintro e w' ⟨rfl, ⟨nd, rfl⟩⟩))
           go_roundg kj3
           case measure => have := HK1.out; have := HJ3.out; omega
           case rel => exact ⟨(wrap64 (x3_1 + 1)), (by first | rfl | (simp; done) | (simp [*]; done)), H', ⟨by have := HK1.out; have := HJ3.out; omega⟩, ⟨by repeat (first | (with_reducible first | exact HB.out | apply below_alloc | apply pw_below_drewN | apply below_drew1) | exact HB.out)⟩⟩
          ·rw [if_neg c21] at H
           cases H
         ·rw [if_neg c19] at H
          cases H
        ·rw [if_neg c18] at H
         cases H
       ·rw [if_neg c17] at H
        cases H
    ·rw [if_neg c3] at H
     have c3b0 : decide (x3_1 < 4) = false := decide_eq_false c3
     clear c3
     replace H := Option.bind_eq_some_iff.mp H
     obtain ⟨t255, A340, H⟩ := H
     replace H : (some t255) = some r := H
     have A34 := Aside0.mk A340
     clear A340
     obtain rfl := Option.some.inj H
     go_wp2_with (first | ((with_reducible refine gate_callee (f := 14) rfl ?_); refine goesL_ (some 65) rfl rfl Try.func14 (by kernel_rfl) rfl #[] rfl (by (try simp only [List.map_toArray, List.map_cons, List.map_nil]); first | done | rfl | (simp only [List.length_drop, List.length_take]; rfl)) ?_; (with_reducible refine (wherrylaw06_wakes.calls  t255 _ A34.out).mono ?_); rintro e w35 ⟨rfl, hb⟩; refine ⟨_, rfl, ?_⟩; have n0_ := Aside0.mk (below_step (by repeat (first | (with_reducible first | exact HB.out | apply below_alloc | apply pw_below_drewN | apply below_drew1) | exact HB.out)) hb); clear HB; have HB := n0_; clear n0_; (try clear hb); (try clear hb2); (try clear hk); (try clear hi)))
     go_ret
     exact ⟨by first | rfl | (simp [errW_none, errW_some] <;> rfl) | (simp [*, errW_none, errW_some] <;> rfl), by repeat (first | (with_reducible first | exact HB.out | apply below_alloc | apply pw_below_drewN | apply below_drew1) | exact HB.out)⟩

/-- THE ONE PURE STATEMENT of wherrylaw06_ShrinkBack: yours. -/
def wherrylaw06_ShrinkBack.Pure : Prop := ∀ (l0 : List Int), l0.length ≤ maxLen → l0.length * 1 ≤ 140737488351232 → (∀ x ∈ l0, (Lit.int .u8 x).wf = true) → ∃ k, wherrylaw06_ShrinkBack.f k l0 = some true
theorem wherrylaw06_ShrinkBack.walk (P : wherrylaw06_ShrinkBack.Pure) (a0 : Option Addr) (len0 cap0 : Nat) (z0 : List Int) (w : World) (w0 : (a0 = none ∧ len0 = 0 ∧ cap0 = 0 ∧ z0 = []) ∨ ∃ x, a0 = some x ∧ len0 ≤ cap0 ∧ cap0 ≤ maxLen ∧ z0.length = cap0 ∧ (∀ i, i < z0.length → w.cell? (x.add i) = some (.int .u8 (z0.getD i 0))) ∧ ∀ n ∈ z0, (Lit.int .u8 n).wf = true) (y0 : len0 * 1 ≤ 140737488351232) :
  Calls Try.prog 8 #[.slice a0 len0 cap0] w fun e w' => e = .returned (.bool true) ∧ Below w.heap.size w w' := by
 obtain ⟨l0, rfl, hr0, hm0, hw0, hc0⟩ := ReadsInt.ofRowC w0
 obtain ⟨k, h⟩ := P l0 hm0 y0 hw0
 refine (wherrylaw06_ShrinkBack.calls k _ _ l0 true w (Kd.C_of_reads (d := (0 : Int)) (h1 := fun _ => rfl) hr0) hc0 h).mono ?_
 rintro e w' ⟨rfl, hd⟩
 exact ⟨rfl, hd⟩

end Go.Proofs.Ytlffpaploefljaa.P
