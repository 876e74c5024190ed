-- Written by a program of this session out of the translation. Lean checks it.
import Derived.Test.YtfghmdjlhfclaaaPx0
import Derived.Test.YtfghmdjlhfclaaaPx1
import Derived.Test.YtfghmdjlhfclaaaPx2
import Derived.Test.YtfghmdjlhfclaaaPx5
import Derived.Test.YtfghmdjlhfclaaaPx6
namespace Go.Proofs.Ytfghmdjlhfclaaa.P
open Go.RowKit Go.Proofs.YtfghmdjlhfclaaaW.PrintWords Go.Proofs.YtfghmdjlhfclaaaW.PrintLast Go.Proofs.YtfghmdjlhfclaaaW.PrintMore
attribute [local go_sem] max2_int min2_int max_two min_two max_three min_three max_four min_four   -- for this text's walks alone
set_option linter.unusedVariables false
set_option linter.unusedSimpArgs false

-- PART
/-! ### wherrylaw05_SymFixed: function 7 -/
mutual
def wherrylaw05_SymFixed.j0 : Nat → Int → List Int → Bool → Option (Bool)
  | 0, _, _, _ => none
  | k + 1, x0, x3, x30 => if x30 = true then (some false) else ((canon_Codes.f x3).bind fun bt149 => (if bt149.2 = 0 then (wherrylaw05_SymFixed.j1 k x0 x3 bt149.1 ((bt149.1.length : Int) != 288)) else (wherrylaw05_SymFixed.j1 k x0 x3 bt149.1 true)))
def wherrylaw05_SymFixed.j1 : Nat → Int → List Int → List Int → Bool → Option (Bool)
  | 0, _, _, _, _ => none
  | k + 1, x0, x3, x5, x42 => if x42 = true then (some false) else (if (wrap64 (Int.tmod (IntKind.u64.wrap (x0)) 288)) ≥ 280 then (if 0 ≤ (wrap64 (Int.tmod (IntKind.u64.wrap (x0)) 288)) then (if (wrap64 (Int.tmod (IntKind.u64.wrap (x0)) 288)) < (x5.length : Int) then (if (rd x5 (wrap64 (Int.tmod (IntKind.u64.wrap (x0)) 288))) = (wrap64 ((wrap64 (192 + (wrap64 (Int.tmod (IntKind.u64.wrap (x0)) 288)))) - 280)) then (if (wrap64 (Int.tmod (IntKind.u64.wrap (x0)) 288)) < (x3.length : Int) then (if (rd x3 (wrap64 (Int.tmod (IntKind.u64.wrap (x0)) 288))) = 8 then ((wherrylaw05_wakes.f k).bind fun t155 => (some t155)) else (some false)) else (none)) else (some false)) else (none)) else (none)) else (if (wrap64 (Int.tmod (IntKind.u64.wrap (x0)) 288)) ≥ 256 then (if 0 ≤ (wrap64 (Int.tmod (IntKind.u64.wrap (x0)) 288)) then (if (wrap64 (Int.tmod (IntKind.u64.wrap (x0)) 288)) < (x5.length : Int) then (if (rd x5 (wrap64 (Int.tmod (IntKind.u64.wrap (x0)) 288))) = (wrap64 ((wrap64 (Int.tmod (IntKind.u64.wrap (x0)) 288)) - 256)) then (if (wrap64 (Int.tmod (IntKind.u64.wrap (x0)) 288)) < (x3.length : Int) then (if (rd x3 (wrap64 (Int.tmod (IntKind.u64.wrap (x0)) 288))) = 7 then ((wherrylaw05_wakes.f k).bind fun t158 => (some t158)) else (some false)) else (none)) else (some false)) else (none)) else (none)) else (if (wrap64 (Int.tmod (IntKind.u64.wrap (x0)) 288)) ≥ 144 then (if 0 ≤ (wrap64 (Int.tmod (IntKind.u64.wrap (x0)) 288)) then (if (wrap64 (Int.tmod (IntKind.u64.wrap (x0)) 288)) < (x5.length : Int) then (if (rd x5 (wrap64 (Int.tmod (IntKind.u64.wrap (x0)) 288))) = (wrap64 ((wrap64 (400 + (wrap64 (Int.tmod (IntKind.u64.wrap (x0)) 288)))) - 144)) then (if (wrap64 (Int.tmod (IntKind.u64.wrap (x0)) 288)) < (x3.length : Int) then (if (rd x3 (wrap64 (Int.tmod (IntKind.u64.wrap (x0)) 288))) = 9 then ((wherrylaw05_wakes.f k).bind fun t161 => (some t161)) else (some false)) else (none)) else (some false)) else (none)) else (none)) else (if 0 ≤ (wrap64 (Int.tmod (IntKind.u64.wrap (x0)) 288)) then (if (wrap64 (Int.tmod (IntKind.u64.wrap (x0)) 288)) < (x5.length : Int) then (if (rd x5 (wrap64 (Int.tmod (IntKind.u64.wrap (x0)) 288))) = (wrap64 (48 + (wrap64 (Int.tmod (IntKind.u64.wrap (x0)) 288)))) then (if (wrap64 (Int.tmod (IntKind.u64.wrap (x0)) 288)) < (x3.length : Int) then (if (rd x3 (wrap64 (Int.tmod (IntKind.u64.wrap (x0)) 288))) = 8 then ((wherrylaw05_wakes.f k).bind fun t164 => (some t164)) else (some false)) else (none)) else (some false)) else (none)) else (none)))))
end
def wherrylaw05_SymFixed.f (k : Nat) (a0 : Int) : Option (Bool) := (sym_Fixed.f k).bind fun bt141 => (if (bt141.1.length : Int) = 288 then (if (bt141.2.length : Int) = 32 then ((canon_Check.f bt141.1).bind fun t147 => (if t147 = 0 then ((canon_Check.f bt141.2).bind fun t148 => (wherrylaw05_SymFixed.j0 k a0 bt141.1 (t148 != 0))) else (wherrylaw05_SymFixed.j0 k a0 bt141.1 true))) else (wherrylaw05_SymFixed.j0 k a0 bt141.1 true)) else (wherrylaw05_SymFixed.j0 k a0 bt141.1 true))
theorem wherrylaw05_SymFixed.mono_l : ∀ k, (∀ y0 y1 y2, LeO (wherrylaw05_SymFixed.j0 k y0 y1 y2) (wherrylaw05_SymFixed.j0 (k + 1) y0 y1 y2)) ∧ (∀ y0 y1 y2 y3, LeO (wherrylaw05_SymFixed.j1 k y0 y1 y2 y3) (wherrylaw05_SymFixed.j1 (k + 1) y0 y1 y2 y3))
  | 0 => ⟨fun _ _ _ r h => by simp [wherrylaw05_SymFixed.j0] at h, fun _ _ _ _ r h => by simp [wherrylaw05_SymFixed.j1] at h⟩
  | k + 1 => by
    obtain ⟨ih0, ih1⟩ := wherrylaw05_SymFixed.mono_l k
    refine ⟨?_, ?_⟩
    · intro y0 y1 y2
      unfold wherrylaw05_SymFixed.j0
      repeat' first
      | (with_reducible exact ih0 _ _ _)
      | (with_reducible exact ih1 _ _ _ _)
      | (with_reducible exact sym_Fixed.mono _)
      | (with_reducible exact wherrylaw05_wakes.mono _)
      | (with_reducible exact LeO.refl _)
      | (with_reducible exact LeO.none _)
      | (with_reducible refine LeO.ite ?_ ?_)
      | (with_reducible refine LeO.bind ?_ (fun _ => ?_))
      | exact ih0 _ _ _
      | exact ih1 _ _ _ _
      | exact sym_Fixed.mono _
      | exact wherrylaw05_wakes.mono _
      | exact LeO.none _
      | refine LeO.ite ?_ ?_
      | refine LeO.bind ?_ (fun _ => ?_)
    · intro y0 y1 y2 y3
      unfold wherrylaw05_SymFixed.j1
      repeat' first
      | (with_reducible exact ih0 _ _ _)
      | (with_reducible exact ih1 _ _ _ _)
      | (with_reducible exact sym_Fixed.mono _)
      | (with_reducible exact wherrylaw05_wakes.mono _)
      | (with_reducible exact LeO.refl _)
      | (with_reducible exact LeO.none _)
      | (with_reducible refine LeO.ite ?_ ?_)
      | (with_reducible refine LeO.bind ?_ (fun _ => ?_))
      | exact ih0 _ _ _
      | exact ih1 _ _ _ _
      | exact sym_Fixed.mono _
      | exact wherrylaw05_wakes.mono _
      | exact LeO.none _
      | refine LeO.ite ?_ ?_
      | refine LeO.bind ?_ (fun _ => ?_)
theorem wherrylaw05_SymFixed.mono : ∀ a0 k, LeO (wherrylaw05_SymFixed.f k a0) (wherrylaw05_SymFixed.f (k + 1) a0) := by
  intro a0 k
  obtain ⟨ih0, ih1⟩ := wherrylaw05_SymFixed.mono_l k
  unfold wherrylaw05_SymFixed.f
  repeat' first
      | (with_reducible exact ih0 _ _ _)
      | (with_reducible exact ih1 _ _ _ _)
      | (with_reducible exact sym_Fixed.mono _)
      | (with_reducible exact wherrylaw05_wakes.mono _)
      | (with_reducible exact LeO.refl _)
      | (with_reducible exact LeO.none _)
      | (with_reducible refine LeO.ite ?_ ?_)
      | (with_reducible refine LeO.bind ?_ (fun _ => ?_))
      | exact ih0 _ _ _
      | exact ih1 _ _ _ _
      | exact sym_Fixed.mono _
      | exact wherrylaw05_wakes.mono _
      | exact LeO.none _
      | refine LeO.ite ?_ ?_
      | refine LeO.bind ?_ (fun _ => ?_)
set_option maxHeartbeats 8000000 in
set_option maxRecDepth 100000 in
theorem wherrylaw05_SymFixed.calls (k : Nat) (a0 : Int) (r : Bool) (w : World) (h : wherrylaw05_SymFixed.f k a0 = some r) :
    Calls Try.prog 7 #[.int .i64 a0] w fun e w' => e = .returned (.bool r) ∧ Below w.heap.size w w' := by
  have HB := Aside0.mk (Below.refl w.heap.size w)
  have H : ((sym_Fixed.f k).bind fun bt141 => (if (bt141.1.length : Int) = 288 then (if (bt141.2.length : Int) = 32 then ((canon_Check.f bt141.1).bind fun t147 => (if t147 = 0 then ((canon_Check.f bt141.2).bind fun t148 => (wherrylaw05_SymFixed.j0 k a0 bt141.1 (t148 != 0))) else (wherrylaw05_SymFixed.j0 k a0 bt141.1 true))) else (wherrylaw05_SymFixed.j0 k a0 bt141.1 true)) else (wherrylaw05_SymFixed.j0 k a0 bt141.1 true))) = some r := h
  clear h
  replace H := Option.bind_eq_some_iff.mp H
  obtain ⟨⟨t141, t142⟩, A20, H⟩ := H
  replace H : (if (t141.length : Int) = 288 then (if (t142.length : Int) = 32 then ((canon_Check.f t141).bind fun t147 => (if t147 = 0 then ((canon_Check.f t142).bind fun t148 => (wherrylaw05_SymFixed.j0 k a0 t141 (t148 != 0))) else (wherrylaw05_SymFixed.j0 k a0 t141 true))) else (wherrylaw05_SymFixed.j0 k a0 t141 true)) else (wherrylaw05_SymFixed.j0 k a0 t141 true)) = some r := H
  have A2 := Aside0.mk A20
  clear A20
  have HC3 := Aside0.mk H
  clear H
  go_enter Try.func7, Try.ntmps7
  go_upto_region 2 with (first | ((with_reducible refine gate_callee (f := 16) rfl ?_); refine goesL_ (some 10) rfl rfl Try.func16 (by kernel_rfl) rfl #[] rfl (by (try simp only [List.map_toArray, List.map_cons, List.map_nil]); first | done | rfl | (simp only [List.length_drop, List.length_take]; rfl)) ?_; (with_reducible refine (sym_Fixed.calls k  t141 t142 _ A2.out).mono ?_); rintro e w4 ⟨v143, v145, rfl, ho0, ho1, hb⟩; refine ⟨_, rfl, ?_⟩; have n0_ := Aside0.mk (Kd.R_lower ho0 (below_size (by repeat (first | (with_reducible first | exact HB.out | apply below_alloc | apply pw_below_drewN | apply below_drew1) | exact HB.out)))); have n1_ := Aside0.mk (Kd.R_lower ho1 (below_size (by repeat (first | (with_reducible first | exact HB.out | apply below_alloc | apply pw_below_drewN | apply below_drew1) | exact HB.out)))); have n2_ := Aside0.mk (below_step (by repeat (first | (with_reducible first | exact HB.out | apply below_alloc | apply pw_below_drewN | apply below_drew1) | exact HB.out)) hb); clear HB; have HO144 := n0_; have HO146 := n1_; have HB := n2_; clear n0_ n1_ n2_; (try clear hb); (try clear hb2); (try clear hk); (try clear hi); (try clear ho0); (try clear ho1)))
  (try simp only [Act.put, List.setIfInBounds_toArray, List.set_cons_zero, List.set_cons_succ])
  go_cut [30] (fun v30 wc => ∃ (kq : Nat) (x30_2 : Bool), v30 = .bool x30_2 ∧ Aside0 (wherrylaw05_SymFixed.j0 kq a0 t141 x30_2 = some r) ∧ Aside0 (kq ≤ k) ∧ Aside0 (Kd.R (Kd.int .i64) 3 wc w.heap.size (fun _ => True) v143 t141) ∧ Aside0 (Below w.heap.size w wc))
  case first =>
    have H := HC3.out
    clear HC3
    by_cases c5 : (t141.length : Int) = 288
    · rw [if_pos c5] at H
      have c5b0 : ((t141.length : Int) == 288) = true := beq_iff_eq.mpr c5
      have c5b1 : ((t141.length : Int) != 288) = false := bne_eq_false_iff_eq.mpr c5
      clear c5
      (first | rw [c5b0] | (simp only [i64_w, i32_w]; rw [c5b0]) | skip)
      by_cases c6 : (t142.length : Int) = 32
      · rw [if_pos c6] at H
        have c6b0 : ((t142.length : Int) == 32) = true := beq_iff_eq.mpr c6
        have c6b1 : ((t142.length : Int) != 32) = false := bne_eq_false_iff_eq.mpr c6
        clear c6
        replace H := Option.bind_eq_some_iff.mp H
        obtain ⟨t147, A70, H⟩ := H
        replace H : (if t147 = 0 then ((canon_Check.f t142).bind fun t148 => (wherrylaw05_SymFixed.j0 k a0 t141 (t148 != 0))) else (wherrylaw05_SymFixed.j0 k a0 t141 true)) = some r := H
        have A7 := Aside0.mk A70
        clear A70
        by_cases c8 : t147 = 0
        · rw [if_pos c8] at H
          have c8b0 : (t147 == 0) = true := beq_iff_eq.mpr c8
          have c8b1 : (t147 != 0) = false := bne_eq_false_iff_eq.mpr c8
          clear c8
          replace H := Option.bind_eq_some_iff.mp H
          obtain ⟨t148, A90, H⟩ := H
          replace H : (wherrylaw05_SymFixed.j0 k a0 t141 (t148 != 0)) = some r := H
          have A9 := Aside0.mk A90
          clear A90
          have H' := Aside0.mk H
          clear H
          obtain ⟨Ao10, co10, eo10⟩ := Kd.R_slice HO144.out
          subst eo10
          obtain ⟨Ao11, co11, eo11⟩ := Kd.R_slice HO146.out
          subst eo11
          go_wp2_with (first | (go_at_call 17; (with_reducible refine (canon_Check.calls _ _ t141 t147 _ ?side1 ?side2 A7.out).mono ?_); (case side1 => repeat (first | exact (Kd.R_reads' HO144.out).2.2 | (with_reducible refine Kd.C_alloc ?_ _) | (with_reducible refine Kd.C_drewN ?_ _) | (with_reducible refine Kd.C_drew ?_))); (case side2 => exact (Kd.R_reads' HO144.out).2.1); rintro e w12 ⟨rfl, hb⟩; have n0_ := Aside0.mk (Kd.R_below (by (with_reducible repeat (first | apply Kd.R_alloc | apply Kd.R_drewN | apply Kd.R_drew)); exact HO144.out) hb); have n1_ := Aside0.mk (Kd.R_below (by (with_reducible repeat (first | apply Kd.R_alloc | apply Kd.R_drewN | apply Kd.R_drew)); exact HO146.out) hb); have n2_ := Aside0.mk (below_step (by repeat (first | (with_reducible first | exact HB.out | apply below_alloc | apply pw_below_drewN | apply below_drew1) | exact HB.out)) hb); clear HO144; clear HO146; clear HB; have HO144 := n0_; have HO146 := n1_; have HB := n2_; clear n0_ n1_ n2_; (try clear hb); (try clear hb2); (try clear hk); (try clear hi)) | (go_at_call 17; (with_reducible refine (canon_Check.calls _ _ t142 t148 _ ?side1 ?side2 A9.out).mono ?_); (case side1 => repeat (first | exact (Kd.R_reads' HO146.out).2.2 | (with_reducible refine Kd.C_alloc ?_ _) | (with_reducible refine Kd.C_drewN ?_ _) | (with_reducible refine Kd.C_drew ?_))); (case side2 => exact (Kd.R_reads' HO146.out).2.1); rintro e w13 ⟨rfl, hb⟩; have n0_ := Aside0.mk (Kd.R_below (by (with_reducible repeat (first | apply Kd.R_alloc | apply Kd.R_drewN | apply Kd.R_drew)); exact HO144.out) hb); have n1_ := Aside0.mk (Kd.R_below (by (with_reducible repeat (first | apply Kd.R_alloc | apply Kd.R_drewN | apply Kd.R_drew)); exact HO146.out) hb); have n2_ := Aside0.mk (below_step (by repeat (first | (with_reducible first | exact HB.out | apply below_alloc | apply pw_below_drewN | apply below_drew1) | exact HB.out)) hb); clear HO144; clear HO146; clear HB; have HO144 := n0_; have HO146 := n1_; have HB := n2_; clear n0_ n1_ n2_; (try clear hb); (try clear hb2); (try clear hk); (try clear hi)))
          go_meet
          case rel => exact ⟨_, ((t148 != 0)), (by first | rfl | (simp; done) | (simp [*]; done)), H', ⟨by first | omega | exact Nat.le_refl _⟩, ⟨by (with_reducible repeat (first | apply Kd.R_alloc | apply Kd.R_drewN | apply Kd.R_drew)); exact Kd.R_mono HO144.out (fun _ hk => trivial)⟩, ⟨by repeat (first | (with_reducible first | exact HB.out | apply below_alloc | apply pw_below_drewN | apply below_drew1) | exact HB.out)⟩⟩
        · rw [if_neg c8] at H
          have c8b0 : (t147 == 0) = false := beq_eq_false_iff_ne.mpr c8
          have c8b1 : (t147 != 0) = true := bne_iff_ne.mpr c8
          have H' := Aside0.mk H
          clear H
          obtain ⟨Ao14, co14, eo14⟩ := Kd.R_slice HO144.out
          subst eo14
          obtain ⟨Ao15, co15, eo15⟩ := Kd.R_slice HO146.out
          subst eo15
          go_wp2_with (first | (go_at_call 17; (with_reducible refine (canon_Check.calls _ _ t141 t147 _ ?side1 ?side2 A7.out).mono ?_); (case side1 => repeat (first | exact (Kd.R_reads' HO144.out).2.2 | (with_reducible refine Kd.C_alloc ?_ _) | (with_reducible refine Kd.C_drewN ?_ _) | (with_reducible refine Kd.C_drew ?_))); (case side2 => exact (Kd.R_reads' HO144.out).2.1); rintro e w16 ⟨rfl, hb⟩; have n0_ := Aside0.mk (Kd.R_below (by (with_reducible repeat (first | apply Kd.R_alloc | apply Kd.R_drewN | apply Kd.R_drew)); exact HO144.out) hb); have n1_ := Aside0.mk (Kd.R_below (by (with_reducible repeat (first | apply Kd.R_alloc | apply Kd.R_drewN | apply Kd.R_drew)); exact HO146.out) hb); have n2_ := Aside0.mk (below_step (by repeat (first | (with_reducible first | exact HB.out | apply below_alloc | apply pw_below_drewN | apply below_drew1) | exact HB.out)) hb); clear HO144; clear HO146; clear HB; have HO144 := n0_; have HO146 := n1_; have HB := n2_; clear n0_ n1_ n2_; (try clear hb); (try clear hb2); (try clear hk); (try clear hi)))
          go_meet
          case rel => exact ⟨_, (true), (by first | rfl | (simp; done) | (simp [*]; done)), H', ⟨by first | omega | exact Nat.le_refl _⟩, ⟨by (with_reducible repeat (first | apply Kd.R_alloc | apply Kd.R_drewN | apply Kd.R_drew)); exact Kd.R_mono HO144.out (fun _ hk => trivial)⟩, ⟨by repeat (first | (with_reducible first | exact HB.out | apply below_alloc | apply pw_below_drewN | apply below_drew1) | exact HB.out)⟩⟩
      · rw [if_neg c6] at H
        have c6b0 : ((t142.length : Int) == 32) = false := beq_eq_false_iff_ne.mpr c6
        have c6b1 : ((t142.length : Int) != 32) = true := bne_iff_ne.mpr c6
        have H' := Aside0.mk H
        clear H
        obtain ⟨Ao17, co17, eo17⟩ := Kd.R_slice HO144.out
        subst eo17
        obtain ⟨Ao18, co18, eo18⟩ := Kd.R_slice HO146.out
        subst eo18
        go_wp2
        go_meet
        case rel => exact ⟨_, (true), (by first | rfl | (simp; done) | (simp [*]; done)), H', ⟨by first | omega | exact Nat.le_refl _⟩, ⟨by (with_reducible repeat (first | apply Kd.R_alloc | apply Kd.R_drewN | apply Kd.R_drew)); exact Kd.R_mono HO144.out (fun _ hk => trivial)⟩, ⟨by repeat (first | (with_reducible first | exact HB.out | apply below_alloc | apply pw_below_drewN | apply below_drew1) | exact HB.out)⟩⟩
    · rw [if_neg c5] at H
      have c5b0 : ((t141.length : Int) == 288) = false := beq_eq_false_iff_ne.mpr c5
      have c5b1 : ((t141.length : Int) != 288) = true := bne_iff_ne.mpr c5
      (first | rw [c5b0] | (simp only [i64_w, i32_w]; rw [c5b0]) | skip)
      have H' := Aside0.mk H
      clear H
      obtain ⟨Ao19, co19, eo19⟩ := Kd.R_slice HO144.out
      subst eo19
      go_wp2
      go_meet
      case rel => exact ⟨_, (true), (by first | rfl | (simp; done) | (simp [*]; done)), H', ⟨by first | omega | exact Nat.le_refl _⟩, ⟨by (with_reducible repeat (first | apply Kd.R_alloc | apply Kd.R_drewN | apply Kd.R_drew)); exact Kd.R_mono HO144.out (fun _ hk => trivial)⟩, ⟨by repeat (first | (with_reducible first | exact HB.out | apply below_alloc | apply pw_below_drewN | apply below_drew1) | exact HB.out)⟩⟩
  case rest =>
    clear HC3
    try clear c1
    try clear p2
    try clear c5
    try clear c5b0
    try clear c5b1
    try clear c6
    try clear c6b0
    try clear c6b1
    try clear c7
    try clear c8
    try clear c8b0
    try clear c8b1
    try clear c16
    obtain ⟨kq, x30_2, rfl, HA, HJ2, HO_3, HB⟩ := hcut
    cases kq with
    | zero => exact absurd HA.out (by simp [wherrylaw05_SymFixed.j0])
    | succ kj2 =>
      have H := HA.out
      clear HA
      simp only [wherrylaw05_SymFixed.j0] at H
      by_cases c20 : x30_2 = true
      · subst c20
        have H1 : (some false) = some r := by rw [if_pos rfl] at H; exact H
        clear H
        have H := H1
        clear H1
        obtain rfl := Option.some.inj H
        go_wp2
        go_ret
        exact ⟨by first | rfl | (simp [errW_none, errW_some] <;> rfl) | (simp [*, errW_none, errW_some] <;> rfl), by repeat (first | (with_reducible first | exact HB.out | apply below_alloc | apply pw_below_drewN | apply below_drew1) | exact HB.out)⟩
      · replace c20 := Bool.eq_false_iff.mpr c20
        subst c20
        have H1 : ((canon_Codes.f t141).bind fun bt149 => (if bt149.2 = 0 then (wherrylaw05_SymFixed.j1 kj2 a0 t141 bt149.1 ((bt149.1.length : Int) != 288)) else (wherrylaw05_SymFixed.j1 kj2 a0 t141 bt149.1 true))) = some r := by rw [if_neg (show ¬ (false = true) by decide)] at H; exact H
        clear H
        have H := H1
        clear H1
        replace H := Option.bind_eq_some_iff.mp H
        obtain ⟨⟨t149, t150⟩, A210, H⟩ := H
        replace H : (if t150 = 0 then (wherrylaw05_SymFixed.j1 kj2 a0 t141 t149 ((t149.length : Int) != 288)) else (wherrylaw05_SymFixed.j1 kj2 a0 t141 t149 true)) = some r := H
        have A21 := Aside0.mk A210
        clear A210
        have HC22 := Aside0.mk H
        clear H
        obtain ⟨Ao23, co23, eo23⟩ := Kd.R_slice HO_3.out
        subst eo23
        go_upto_region 5 with (first | ((with_reducible refine gate_callee (f := 18) rfl ?_); refine goesL_ (some 33) rfl rfl Try.func18 (by kernel_rfl) rfl #[.slice Ao23 t141.length co23] rfl (by (try simp only [List.map_toArray, List.map_cons, List.map_nil]); first | done | rfl | (simp only [List.length_drop, List.length_take]; rfl)) ?_; (with_reducible refine (canon_Codes.calls _ _ t141 t149 t150 _ ?side1 ?side2 A21.out).mono ?_); (case side1 => repeat (first | exact (Kd.R_reads' HO_3.out).2.2 | (with_reducible refine Kd.C_alloc ?_ _) | (with_reducible refine Kd.C_drewN ?_ _) | (with_reducible refine Kd.C_drew ?_))); (case side2 => exact (Kd.R_reads' HO_3.out).2.1); rintro e w24 ⟨v151, rfl, ho0, hb⟩; refine ⟨_, rfl, ?_⟩; have n0_ := Aside0.mk (Kd.R_elder' (by (with_reducible repeat (first | apply Kd.R_alloc | apply Kd.R_drewN | apply Kd.R_drew)); exact HO_3.out) (Kd.R_base ho0) hb); have n1_ := Aside0.mk (Kd.R_lower (Kd.R_new' ho0 (Kd.R_lt (by (with_reducible repeat (first | apply Kd.R_alloc | apply Kd.R_drewN | apply Kd.R_drew)); exact HO_3.out))) (below_size (by repeat (first | (with_reducible first | exact HB.out | apply below_alloc | apply pw_below_drewN | apply below_drew1) | exact HB.out)))); have n2_ := Aside0.mk (below_step (by repeat (first | (with_reducible first | exact HB.out | apply below_alloc | apply pw_below_drewN | apply below_drew1) | exact HB.out)) hb); clear HO_3; clear HB; have HO_3 := n0_; have HO152 := n1_; have HB := n2_; clear n0_ n1_ n2_; (try clear hb); (try clear hb2); (try clear hk); (try clear hi); (try clear ho0)))
        (try simp only [Act.put, List.setIfInBounds_toArray, List.set_cons_zero, List.set_cons_succ])
        go_cut [42] (fun v42 wc => ∃ (kq : Nat) (x42_21 : Bool), v42 = .bool x42_21 ∧ Aside0 (wherrylaw05_SymFixed.j1 kq a0 t141 t149 x42_21 = some r) ∧ Aside0 (kq ≤ kj2) ∧ Aside0 (Kd.R (Kd.int .i64) 3 wc w.heap.size (fun k_ => some k_ ≠ (v151 : Value).ownBlock) (.slice Ao23 t141.length co23) t141) ∧ Aside0 (Kd.R (Kd.int .i64) 3 wc w.heap.size (fun k_ => some k_ ≠ ((.slice Ao23 t141.length co23) : Value).ownBlock) v151 t149) ∧ Aside0 (Below w.heap.size w wc))
        case first =>
          have H := HC22.out
          clear HC22
          by_cases c25 : t150 = 0
          · rw [if_pos c25] at H
            have c25b0 : (t150 == 0) = true := beq_iff_eq.mpr c25
            have c25b1 : (t150 != 0) = false := bne_eq_false_iff_eq.mpr c25
            clear c25
            (first | rw [c25b0] | (simp only [i64_w, i32_w]; rw [c25b0]) | skip)
            have H' := Aside0.mk H
            clear H
            obtain ⟨Ao26, co26, eo26⟩ := Kd.R_slice HO152.out
            subst eo26
            go_wp2
            go_meet
            case rel => exact ⟨_, (((t149.length : Int) != 288)), (by first | rfl | (simp; done) | (simp [*]; done)), H', ⟨by have := HJ2.out; first | omega | exact Nat.le_refl _⟩, ⟨by (with_reducible repeat (first | apply Kd.R_alloc | apply Kd.R_drewN | apply Kd.R_drew)); exact Kd.R_mono HO_3.out (fun _ hk => hk.2)⟩, ⟨by (with_reducible repeat (first | apply Kd.R_alloc | apply Kd.R_drewN | apply Kd.R_drew)); exact Kd.R_mono HO152.out (fun _ hk => hk.2)⟩, ⟨by repeat (first | (with_reducible first | exact HB.out | apply below_alloc | apply pw_below_drewN | apply below_drew1) | exact HB.out)⟩⟩
          · rw [if_neg c25] at H
            have c25b0 : (t150 == 0) = false := beq_eq_false_iff_ne.mpr c25
            have c25b1 : (t150 != 0) = true := bne_iff_ne.mpr c25
            (first | rw [c25b0] | (simp only [i64_w, i32_w]; rw [c25b0]) | skip)
            have H' := Aside0.mk H
            clear H
            go_wp2
            go_meet
            case rel => exact ⟨_, (true), (by first | rfl | (simp; done) | (simp [*]; done)), H', ⟨by have := HJ2.out; first | omega | exact Nat.le_refl _⟩, ⟨by (with_reducible repeat (first | apply Kd.R_alloc | apply Kd.R_drewN | apply Kd.R_drew)); exact Kd.R_mono HO_3.out (fun _ hk => hk.2)⟩, ⟨by (with_reducible repeat (first | apply Kd.R_alloc | apply Kd.R_drewN | apply Kd.R_drew)); exact Kd.R_mono HO152.out (fun _ hk => hk.2)⟩, ⟨by repeat (first | (with_reducible first | exact HB.out | apply below_alloc | apply pw_below_drewN | apply below_drew1) | exact HB.out)⟩⟩
        case rest =>
          clear HC22
          try clear c1
          try clear c2
          try clear p2
          try clear c5
          try clear c5b0
          try clear c5b1
          try clear c6
          try clear c6b0
          try clear c6b1
          try clear c7
          try clear c8
          try clear c8b0
          try clear c8b1
          try clear c16
          try clear c18
          try clear c20
          try clear c25
          try clear c25b0
          try clear c25b1
          try clear p2
          obtain ⟨kq, x42_21, rfl, HA, HJ21, HO_3, HO_5, HB⟩ := hcut
          cases kq with
          | zero => exact absurd HA.out (by simp [wherrylaw05_SymFixed.j1])
          | succ kj21 =>
            have H := HA.out
            clear HA
            simp only [wherrylaw05_SymFixed.j1] at H
            by_cases c27 : x42_21 = true
            · subst c27
              have H1 : (some false) = some r := by rw [if_pos rfl] at H; exact H
              clear H
              have H := H1
              clear H1
              obtain rfl := Option.some.inj H
              go_wp2
              go_ret
              exact ⟨by first | rfl | (simp [errW_none, errW_some] <;> rfl) | (simp [*, errW_none, errW_some] <;> rfl), by repeat (first | (with_reducible first | exact HB.out | apply below_alloc | apply pw_below_drewN | apply below_drew1) | exact HB.out)⟩
            · replace c27 := Bool.eq_false_iff.mpr c27
              subst c27
              have H1 : (if (wrap64 (Int.tmod (IntKind.u64.wrap (a0)) 288)) ≥ 280 then (if 0 ≤ (wrap64 (Int.tmod (IntKind.u64.wrap (a0)) 288)) then (if (wrap64 (Int.tmod (IntKind.u64.wrap (a0)) 288)) < (t149.length : Int) then (if (rd t149 (wrap64 (Int.tmod (IntKind.u64.wrap (a0)) 288))) = (wrap64 ((wrap64 (192 + (wrap64 (Int.tmod (IntKind.u64.wrap (a0)) 288)))) - 280)) then (if (wrap64 (Int.tmod (IntKind.u64.wrap (a0)) 288)) < (t141.length : Int) then (if (rd t141 (wrap64 (Int.tmod (IntKind.u64.wrap (a0)) 288))) = 8 then ((wherrylaw05_wakes.f kj21).bind fun t155 => (some t155)) else (some false)) else (none)) else (some false)) else (none)) else (none)) else (if (wrap64 (Int.tmod (IntKind.u64.wrap (a0)) 288)) ≥ 256 then (if 0 ≤ (wrap64 (Int.tmod (IntKind.u64.wrap (a0)) 288)) then (if (wrap64 (Int.tmod (IntKind.u64.wrap (a0)) 288)) < (t149.length : Int) then (if (rd t149 (wrap64 (Int.tmod (IntKind.u64.wrap (a0)) 288))) = (wrap64 ((wrap64 (Int.tmod (IntKind.u64.wrap (a0)) 288)) - 256)) then (if (wrap64 (Int.tmod (IntKind.u64.wrap (a0)) 288)) < (t141.length : Int) then (if (rd t141 (wrap64 (Int.tmod (IntKind.u64.wrap (a0)) 288))) = 7 then ((wherrylaw05_wakes.f kj21).bind fun t158 => (some t158)) else (some false)) else (none)) else (some false)) else (none)) else (none)) else (if (wrap64 (Int.tmod (IntKind.u64.wrap (a0)) 288)) ≥ 144 then (if 0 ≤ (wrap64 (Int.tmod (IntKind.u64.wrap (a0)) 288)) then (if (wrap64 (Int.tmod (IntKind.u64.wrap (a0)) 288)) < (t149.length : Int) then (if (rd t149 (wrap64 (Int.tmod (IntKind.u64.wrap (a0)) 288))) = (wrap64 ((wrap64 (400 + (wrap64 (Int.tmod (IntKind.u64.wrap (a0)) 288)))) - 144)) then (if (wrap64 (Int.tmod (IntKind.u64.wrap (a0)) 288)) < (t141.length : Int) then (if (rd t141 (wrap64 (Int.tmod (IntKind.u64.wrap (a0)) 288))) = 9 then ((wherrylaw05_wakes.f kj21).bind fun t161 => (some t161)) else (some false)) else (none)) else (some false)) else (none)) else (none)) else (if 0 ≤ (wrap64 (Int.tmod (IntKind.u64.wrap (a0)) 288)) then (if (wrap64 (Int.tmod (IntKind.u64.wrap (a0)) 288)) < (t149.length : Int) then (if (rd t149 (wrap64 (Int.tmod (IntKind.u64.wrap (a0)) 288))) = (wrap64 (48 + (wrap64 (Int.tmod (IntKind.u64.wrap (a0)) 288)))) then (if (wrap64 (Int.tmod (IntKind.u64.wrap (a0)) 288)) < (t141.length : Int) then (if (rd t141 (wrap64 (Int.tmod (IntKind.u64.wrap (a0)) 288))) = 8 then ((wherrylaw05_wakes.f kj21).bind fun t164 => (some t164)) else (some false)) else (none)) else (some false)) else (none)) else (none))))) = some r := by rw [if_neg (show ¬ (false = true) by decide)] at H; exact H
              clear H
              have H := H1
              clear H1
              by_cases c28 : (wrap64 (Int.tmod (IntKind.u64.wrap (a0)) 288)) ≥ 280
              · rw [if_pos c28] at H
                have c28b0 : decide (280 ≤ (wrap64 (Int.tmod (IntKind.u64.wrap (a0)) 288))) = true := decide_eq_true c28
                clear c28
                obtain ⟨ji29, hji29⟩ : ∃ j_ : Int, (wrap64 (Int.tmod (IntKind.u64.wrap (a0)) 288)) = j_ := ⟨_, rfl⟩
                replace H : (if 0 ≤ (ji29) then (if (ji29) < (t149.length : Int) then (if (rd t149 (ji29)) = (wrap64 ((wrap64 (192 + (ji29))) - 280)) then (if (ji29) < (t141.length : Int) then (if (rd t141 (ji29)) = 8 then ((wherrylaw05_wakes.f kj21).bind fun t155 => (some t155)) else (some false)) else (none)) else (some false)) else (none)) else (none)) = some r := by first | (rw [hji29] at H; exact H) | (simp only [hji29] at H ⊢; exact H)
                (try rw [hji29] at c28b0)
                have hji29w : (IntKind.i64.wrap (Int.tmod (IntKind.u64.wrap (a0)) 288)) = ji29 := (i64_w _).trans hji29
                by_cases c30 : 0 ≤ (ji29)
                · rw [if_pos c30] at H
                  have c30b0 : decide (0 ≤ (ji29)) = true := decide_eq_true c30
                  clear c30
                  by_cases c31 : (ji29) < (t149.length : Int)
                  · rw [if_pos c31] at H
                    have c31b0 : decide ((ji29) < (t149.length : Int)) = true := decide_eq_true c31
                    clear c31
                    by_cases c32 : (rd t149 (ji29)) = (wrap64 ((wrap64 (192 + (ji29))) - 280))
                    · rw [if_pos c32] at H
                      have c32b0 : ((rd t149 (ji29)) == (wrap64 ((wrap64 (192 + (ji29))) - 280))) = true := beq_iff_eq.mpr c32
                      have c32b1 : ((rd t149 (ji29)) != (wrap64 ((wrap64 (192 + (ji29))) - 280))) = false := bne_eq_false_iff_eq.mpr c32
                      clear c32
                      by_cases c33 : (ji29) < (t141.length : Int)
                      · rw [if_pos c33] at H
                        have c33b0 : decide ((ji29) < (t141.length : Int)) = true := decide_eq_true c33
                        clear c33
                        by_cases c34 : (rd t141 (ji29)) = 8
                        · rw [if_pos c34] at H
                          have c34b0 : ((rd t141 (ji29)) == 8) = true := beq_iff_eq.mpr c34
                          have c34b1 : ((rd t141 (ji29)) != 8) = false := bne_eq_false_iff_eq.mpr c34
                          clear c34
                          replace H := Option.bind_eq_some_iff.mp H
                          obtain ⟨t155, A350, H⟩ := H
                          replace H : (some t155) = some r := H
                          have A35 := Aside0.mk A350
                          clear A350
                          obtain rfl := Option.some.inj H
                          obtain ⟨Ao36, co36, eo36⟩ := Kd.R_slice HO_5.out
                          subst eo36
                          have p153 : 0 ≤ ((ji29) : Int) := of_decide_eq_true (by first | (with_reducible assumption) | assumption)
                          have q153 : (ji29) < (t149.length : Int) := of_decide_eq_true (by first | (with_reducible assumption) | assumption)
                          obtain ⟨ad153, e153, hx153_0⟩ := Kd.at_int (Kd.R_reads' HO_5.out).2.2 (ji29) p153 q153
                          cases e153
                          replace p153 := eq_true p153
                          replace q153 := eq_true q153
                          have p154 : 0 ≤ ((ji29) : Int) := of_decide_eq_true (by first | (with_reducible assumption) | assumption)
                          have q154 : (ji29) < (t141.length : Int) := of_decide_eq_true (by first | (with_reducible assumption) | assumption)
                          obtain ⟨ad154, e154, hx154_0⟩ := Kd.at_int (Kd.R_reads' HO_3.out).2.2 (ji29) p154 q154
                          cases e154
                          replace p154 := eq_true p154
                          replace q154 := eq_true q154
                          go_wp2_with (first | (go_at_call 13; (with_reducible refine (wherrylaw05_wakes.calls kj21  t155 _ A35.out).mono ?_); rintro e w37 ⟨rfl, hb⟩; have n0_ := Aside0.mk (Kd.R_below (by (with_reducible repeat (first | apply Kd.R_alloc | apply Kd.R_drewN | apply Kd.R_drew)); exact HO_3.out) hb); have n1_ := Aside0.mk (Kd.R_below (by (with_reducible repeat (first | apply Kd.R_alloc | apply Kd.R_drewN | apply Kd.R_drew)); exact HO_5.out) hb); have n2_ := Aside0.mk (below_step (by repeat (first | (with_reducible first | exact HB.out | apply below_alloc | apply pw_below_drewN | apply below_drew1) | exact HB.out)) hb); clear HO_3; clear HO_5; clear HB; have HO_3 := n0_; have HO_5 := n1_; have HB := n2_; clear n0_ n1_ n2_; (try clear hb); (try clear hb2); (try clear hk); (try clear hi)))
                          go_ret
                          exact ⟨by first | rfl | (simp [errW_none, errW_some] <;> rfl) | (simp only [← hji29]; first | rfl | (simp [errW_none, errW_some] <;> rfl)) | (simp [*, errW_none, errW_some] <;> rfl), by repeat (first | (with_reducible first | exact HB.out | apply below_alloc | apply pw_below_drewN | apply below_drew1) | exact HB.out)⟩
                        · rw [if_neg c34] at H
                          have c34b0 : ((rd t141 (ji29)) == 8) = false := beq_eq_false_iff_ne.mpr c34
                          have c34b1 : ((rd t141 (ji29)) != 8) = true := bne_iff_ne.mpr c34
                          obtain rfl := Option.some.inj H
                          obtain ⟨Ao38, co38, eo38⟩ := Kd.R_slice HO_5.out
                          subst eo38
                          have p153 : 0 ≤ ((ji29) : Int) := of_decide_eq_true (by first | (with_reducible assumption) | assumption)
                          have q153 : (ji29) < (t149.length : Int) := of_decide_eq_true (by first | (with_reducible assumption) | assumption)
                          obtain ⟨ad153, e153, hx153_0⟩ := Kd.at_int (Kd.R_reads' HO_5.out).2.2 (ji29) p153 q153
                          cases e153
                          replace p153 := eq_true p153
                          replace q153 := eq_true q153
                          have p154 : 0 ≤ ((ji29) : Int) := of_decide_eq_true (by first | (with_reducible assumption) | assumption)
                          have q154 : (ji29) < (t141.length : Int) := of_decide_eq_true (by first | (with_reducible assumption) | assumption)
                          obtain ⟨ad154, e154, hx154_0⟩ := Kd.at_int (Kd.R_reads' HO_3.out).2.2 (ji29) p154 q154
                          cases e154
                          replace p154 := eq_true p154
                          replace q154 := eq_true q154
                          go_wp2
                          go_ret
                          exact ⟨by first | rfl | (simp [errW_none, errW_some] <;> rfl) | (simp only [← hji29]; first | rfl | (simp [errW_none, errW_some] <;> rfl)) | (simp [*, errW_none, errW_some] <;> rfl), by repeat (first | (with_reducible first | exact HB.out | apply below_alloc | apply pw_below_drewN | apply below_drew1) | exact HB.out)⟩
                      · rw [if_neg c33] at H
                        exact absurd H (by simp)
                    · rw [if_neg c32] at H
                      have c32b0 : ((rd t149 (ji29)) == (wrap64 ((wrap64 (192 + (ji29))) - 280))) = false := beq_eq_false_iff_ne.mpr c32
                      have c32b1 : ((rd t149 (ji29)) != (wrap64 ((wrap64 (192 + (ji29))) - 280))) = true := bne_iff_ne.mpr c32
                      obtain rfl := Option.some.inj H
                      obtain ⟨Ao39, co39, eo39⟩ := Kd.R_slice HO_5.out
                      subst eo39
                      have p153 : 0 ≤ ((ji29) : Int) := of_decide_eq_true (by first | (with_reducible assumption) | assumption)
                      have q153 : (ji29) < (t149.length : Int) := of_decide_eq_true (by first | (with_reducible assumption) | assumption)
                      obtain ⟨ad153, e153, hx153_0⟩ := Kd.at_int (Kd.R_reads' HO_5.out).2.2 (ji29) p153 q153
                      cases e153
                      replace p153 := eq_true p153
                      replace q153 := eq_true q153
                      go_wp2
                      go_ret
                      exact ⟨by first | rfl | (simp [errW_none, errW_some] <;> rfl) | (simp only [← hji29]; first | rfl | (simp [errW_none, errW_some] <;> rfl)) | (simp [*, errW_none, errW_some] <;> rfl), by repeat (first | (with_reducible first | exact HB.out | apply below_alloc | apply pw_below_drewN | apply below_drew1) | exact HB.out)⟩
                  · rw [if_neg c31] at H
                    exact absurd H (by simp)
                · rw [if_neg c30] at H
                  exact absurd H (by simp)
              · rw [if_neg c28] at H
                have c28b0 : decide (280 ≤ (wrap64 (Int.tmod (IntKind.u64.wrap (a0)) 288))) = false := decide_eq_false c28
                clear c28
                by_cases c40 : (wrap64 (Int.tmod (IntKind.u64.wrap (a0)) 288)) ≥ 256
                · rw [if_pos c40] at H
                  have c40b0 : decide (256 ≤ (wrap64 (Int.tmod (IntKind.u64.wrap (a0)) 288))) = true := decide_eq_true c40
                  clear c40
                  obtain ⟨ji41, hji41⟩ : ∃ j_ : Int, (wrap64 (Int.tmod (IntKind.u64.wrap (a0)) 288)) = j_ := ⟨_, rfl⟩
                  replace H : (if 0 ≤ (ji41) then (if (ji41) < (t149.length : Int) then (if (rd t149 (ji41)) = (wrap64 ((ji41) - 256)) then (if (ji41) < (t141.length : Int) then (if (rd t141 (ji41)) = 7 then ((wherrylaw05_wakes.f kj21).bind fun t158 => (some t158)) else (some false)) else (none)) else (some false)) else (none)) else (none)) = some r := by first | (rw [hji41] at H; exact H) | (simp only [hji41] at H ⊢; exact H)
                  (try rw [hji41] at c28b0)
                  (try rw [hji41] at c40b0)
                  have hji41w : (IntKind.i64.wrap (Int.tmod (IntKind.u64.wrap (a0)) 288)) = ji41 := (i64_w _).trans hji41
                  by_cases c42 : 0 ≤ (ji41)
                  · rw [if_pos c42] at H
                    have c42b0 : decide (0 ≤ (ji41)) = true := decide_eq_true c42
                    clear c42
                    by_cases c43 : (ji41) < (t149.length : Int)
                    · rw [if_pos c43] at H
                      have c43b0 : decide ((ji41) < (t149.length : Int)) = true := decide_eq_true c43
                      clear c43
                      by_cases c44 : (rd t149 (ji41)) = (wrap64 ((ji41) - 256))
                      · rw [if_pos c44] at H
                        have c44b0 : ((rd t149 (ji41)) == (wrap64 ((ji41) - 256))) = true := beq_iff_eq.mpr c44
                        have c44b1 : ((rd t149 (ji41)) != (wrap64 ((ji41) - 256))) = false := bne_eq_false_iff_eq.mpr c44
                        clear c44
                        by_cases c45 : (ji41) < (t141.length : Int)
                        · rw [if_pos c45] at H
                          have c45b0 : decide ((ji41) < (t141.length : Int)) = true := decide_eq_true c45
                          clear c45
                          by_cases c46 : (rd t141 (ji41)) = 7
                          · rw [if_pos c46] at H
                            have c46b0 : ((rd t141 (ji41)) == 7) = true := beq_iff_eq.mpr c46
                            have c46b1 : ((rd t141 (ji41)) != 7) = false := bne_eq_false_iff_eq.mpr c46
                            clear c46
                            replace H := Option.bind_eq_some_iff.mp H
                            obtain ⟨t158, A470, H⟩ := H
                            replace H : (some t158) = some r := H
                            have A47 := Aside0.mk A470
                            clear A470
                            obtain rfl := Option.some.inj H
                            obtain ⟨Ao48, co48, eo48⟩ := Kd.R_slice HO_5.out
                            subst eo48
                            have p156 : 0 ≤ ((ji41) : Int) := of_decide_eq_true (by first | (with_reducible assumption) | assumption)
                            have q156 : (ji41) < (t149.length : Int) := of_decide_eq_true (by first | (with_reducible assumption) | assumption)
                            obtain ⟨ad156, e156, hx156_0⟩ := Kd.at_int (Kd.R_reads' HO_5.out).2.2 (ji41) p156 q156
                            cases e156
                            replace p156 := eq_true p156
                            replace q156 := eq_true q156
                            have p157 : 0 ≤ ((ji41) : Int) := of_decide_eq_true (by first | (with_reducible assumption) | assumption)
                            have q157 : (ji41) < (t141.length : Int) := of_decide_eq_true (by first | (with_reducible assumption) | assumption)
                            obtain ⟨ad157, e157, hx157_0⟩ := Kd.at_int (Kd.R_reads' HO_3.out).2.2 (ji41) p157 q157
                            cases e157
                            replace p157 := eq_true p157
                            replace q157 := eq_true q157
                            go_wp2_with (first | (go_at_call 13; (with_reducible refine (wherrylaw05_wakes.calls kj21  t158 _ A47.out).mono ?_); rintro e w49 ⟨rfl, hb⟩; have n0_ := Aside0.mk (Kd.R_below (by (with_reducible repeat (first | apply Kd.R_alloc | apply Kd.R_drewN | apply Kd.R_drew)); exact HO_3.out) hb); have n1_ := Aside0.mk (Kd.R_below (by (with_reducible repeat (first | apply Kd.R_alloc | apply Kd.R_drewN | apply Kd.R_drew)); exact HO_5.out) hb); have n2_ := Aside0.mk (below_step (by repeat (first | (with_reducible first | exact HB.out | apply below_alloc | apply pw_below_drewN | apply below_drew1) | exact HB.out)) hb); clear HO_3; clear HO_5; clear HB; have HO_3 := n0_; have HO_5 := n1_; have HB := n2_; clear n0_ n1_ n2_; (try clear hb); (try clear hb2); (try clear hk); (try clear hi)))
                            go_ret
                            exact ⟨by first | rfl | (simp [errW_none, errW_some] <;> rfl) | (simp only [← hji41]; first | rfl | (simp [errW_none, errW_some] <;> rfl)) | (simp [*, errW_none, errW_some] <;> rfl), by repeat (first | (with_reducible first | exact HB.out | apply below_alloc | apply pw_below_drewN | apply below_drew1) | exact HB.out)⟩
                          · rw [if_neg c46] at H
                            have c46b0 : ((rd t141 (ji41)) == 7) = false := beq_eq_false_iff_ne.mpr c46
                            have c46b1 : ((rd t141 (ji41)) != 7) = true := bne_iff_ne.mpr c46
                            obtain rfl := Option.some.inj H
                            obtain ⟨Ao50, co50, eo50⟩ := Kd.R_slice HO_5.out
                            subst eo50
                            have p156 : 0 ≤ ((ji41) : Int) := of_decide_eq_true (by first | (with_reducible assumption) | assumption)
                            have q156 : (ji41) < (t149.length : Int) := of_decide_eq_true (by first | (with_reducible assumption) | assumption)
                            obtain ⟨ad156, e156, hx156_0⟩ := Kd.at_int (Kd.R_reads' HO_5.out).2.2 (ji41) p156 q156
                            cases e156
                            replace p156 := eq_true p156
                            replace q156 := eq_true q156
                            have p157 : 0 ≤ ((ji41) : Int) := of_decide_eq_true (by first | (with_reducible assumption) | assumption)
                            have q157 : (ji41) < (t141.length : Int) := of_decide_eq_true (by first | (with_reducible assumption) | assumption)
                            obtain ⟨ad157, e157, hx157_0⟩ := Kd.at_int (Kd.R_reads' HO_3.out).2.2 (ji41) p157 q157
                            cases e157
                            replace p157 := eq_true p157
                            replace q157 := eq_true q157
                            go_wp2
                            go_ret
                            exact ⟨by first | rfl | (simp [errW_none, errW_some] <;> rfl) | (simp only [← hji41]; first | rfl | (simp [errW_none, errW_some] <;> rfl)) | (simp [*, errW_none, errW_some] <;> rfl), by repeat (first | (with_reducible first | exact HB.out | apply below_alloc | apply pw_below_drewN | apply below_drew1) | exact HB.out)⟩
                        · rw [if_neg c45] at H
                          exact absurd H (by simp)
                      · rw [if_neg c44] at H
                        have c44b0 : ((rd t149 (ji41)) == (wrap64 ((ji41) - 256))) = false := beq_eq_false_iff_ne.mpr c44
                        have c44b1 : ((rd t149 (ji41)) != (wrap64 ((ji41) - 256))) = true := bne_iff_ne.mpr c44
                        obtain rfl := Option.some.inj H
                        obtain ⟨Ao51, co51, eo51⟩ := Kd.R_slice HO_5.out
                        subst eo51
                        have p156 : 0 ≤ ((ji41) : Int) := of_decide_eq_true (by first | (with_reducible assumption) | assumption)
                        have q156 : (ji41) < (t149.length : Int) := of_decide_eq_true (by first | (with_reducible assumption) | assumption)
                        obtain ⟨ad156, e156, hx156_0⟩ := Kd.at_int (Kd.R_reads' HO_5.out).2.2 (ji41) p156 q156
                        cases e156
                        replace p156 := eq_true p156
                        replace q156 := eq_true q156
                        go_wp2
                        go_ret
                        exact ⟨by first | rfl | (simp [errW_none, errW_some] <;> rfl) | (simp only [← hji41]; first | rfl | (simp [errW_none, errW_some] <;> rfl)) | (simp [*, errW_none, errW_some] <;> rfl), by repeat (first | (with_reducible first | exact HB.out | apply below_alloc | apply pw_below_drewN | apply below_drew1) | exact HB.out)⟩
                    · rw [if_neg c43] at H
                      exact absurd H (by simp)
                  · rw [if_neg c42] at H
                    exact absurd H (by simp)
                · rw [if_neg c40] at H
                  have c40b0 : decide (256 ≤ (wrap64 (Int.tmod (IntKind.u64.wrap (a0)) 288))) = false := decide_eq_false c40
                  clear c40
                  by_cases c52 : (wrap64 (Int.tmod (IntKind.u64.wrap (a0)) 288)) ≥ 144
                  · rw [if_pos c52] at H
                    have c52b0 : decide (144 ≤ (wrap64 (Int.tmod (IntKind.u64.wrap (a0)) 288))) = true := decide_eq_true c52
                    clear c52
                    obtain ⟨ji53, hji53⟩ : ∃ j_ : Int, (wrap64 (Int.tmod (IntKind.u64.wrap (a0)) 288)) = j_ := ⟨_, rfl⟩
                    replace H : (if 0 ≤ (ji53) then (if (ji53) < (t149.length : Int) then (if (rd t149 (ji53)) = (wrap64 ((wrap64 (400 + (ji53))) - 144)) then (if (ji53) < (t141.length : Int) then (if (rd t141 (ji53)) = 9 then ((wherrylaw05_wakes.f kj21).bind fun t161 => (some t161)) else (some false)) else (none)) else (some false)) else (none)) else (none)) = some r := by first | (rw [hji53] at H; exact H) | (simp only [hji53] at H ⊢; exact H)
                    (try rw [hji53] at c28b0)
                    (try rw [hji53] at c40b0)
                    (try rw [hji53] at c52b0)
                    have hji53w : (IntKind.i64.wrap (Int.tmod (IntKind.u64.wrap (a0)) 288)) = ji53 := (i64_w _).trans hji53
                    by_cases c54 : 0 ≤ (ji53)
                    · rw [if_pos c54] at H
                      have c54b0 : decide (0 ≤ (ji53)) = true := decide_eq_true c54
                      clear c54
                      by_cases c55 : (ji53) < (t149.length : Int)
                      · rw [if_pos c55] at H
                        have c55b0 : decide ((ji53) < (t149.length : Int)) = true := decide_eq_true c55
                        clear c55
                        by_cases c56 : (rd t149 (ji53)) = (wrap64 ((wrap64 (400 + (ji53))) - 144))
                        · rw [if_pos c56] at H
                          have c56b0 : ((rd t149 (ji53)) == (wrap64 ((wrap64 (400 + (ji53))) - 144))) = true := beq_iff_eq.mpr c56
                          have c56b1 : ((rd t149 (ji53)) != (wrap64 ((wrap64 (400 + (ji53))) - 144))) = false := bne_eq_false_iff_eq.mpr c56
                          clear c56
                          by_cases c57 : (ji53) < (t141.length : Int)
                          · rw [if_pos c57] at H
                            have c57b0 : decide ((ji53) < (t141.length : Int)) = true := decide_eq_true c57
                            clear c57
                            by_cases c58 : (rd t141 (ji53)) = 9
                            · rw [if_pos c58] at H
                              have c58b0 : ((rd t141 (ji53)) == 9) = true := beq_iff_eq.mpr c58
                              have c58b1 : ((rd t141 (ji53)) != 9) = false := bne_eq_false_iff_eq.mpr c58
                              clear c58
                              replace H := Option.bind_eq_some_iff.mp H
                              obtain ⟨t161, A590, H⟩ := H
                              replace H : (some t161) = some r := H
                              have A59 := Aside0.mk A590
                              clear A590
                              obtain rfl := Option.some.inj H
                              obtain ⟨Ao60, co60, eo60⟩ := Kd.R_slice HO_5.out
                              subst eo60
                              have p159 : 0 ≤ ((ji53) : Int) := of_decide_eq_true (by first | (with_reducible assumption) | assumption)
                              have q159 : (ji53) < (t149.length : Int) := of_decide_eq_true (by first | (with_reducible assumption) | assumption)
                              obtain ⟨ad159, e159, hx159_0⟩ := Kd.at_int (Kd.R_reads' HO_5.out).2.2 (ji53) p159 q159
                              cases e159
                              replace p159 := eq_true p159
                              replace q159 := eq_true q159
                              have p160 : 0 ≤ ((ji53) : Int) := of_decide_eq_true (by first | (with_reducible assumption) | assumption)
                              have q160 : (ji53) < (t141.length : Int) := of_decide_eq_true (by first | (with_reducible assumption) | assumption)
                              obtain ⟨ad160, e160, hx160_0⟩ := Kd.at_int (Kd.R_reads' HO_3.out).2.2 (ji53) p160 q160
                              cases e160
                              replace p160 := eq_true p160
                              replace q160 := eq_true q160
                              go_wp2_with (first | (go_at_call 13; (with_reducible refine (wherrylaw05_wakes.calls kj21  t161 _ A59.out).mono ?_); rintro e w61 ⟨rfl, hb⟩; have n0_ := Aside0.mk (Kd.R_below (by (with_reducible repeat (first | apply Kd.R_alloc | apply Kd.R_drewN | apply Kd.R_drew)); exact HO_3.out) hb); have n1_ := Aside0.mk (Kd.R_below (by (with_reducible repeat (first | apply Kd.R_alloc | apply Kd.R_drewN | apply Kd.R_drew)); exact HO_5.out) hb); have n2_ := Aside0.mk (below_step (by repeat (first | (with_reducible first | exact HB.out | apply below_alloc | apply pw_below_drewN | apply below_drew1) | exact HB.out)) hb); clear HO_3; clear HO_5; clear HB; have HO_3 := n0_; have HO_5 := n1_; have HB := n2_; clear n0_ n1_ n2_; (try clear hb); (try clear hb2); (try clear hk); (try clear hi)))
                              go_ret
                              exact ⟨by first | rfl | (simp [errW_none, errW_some] <;> rfl) | (simp only [← hji53]; first | rfl | (simp [errW_none, errW_some] <;> rfl)) | (simp [*, errW_none, errW_some] <;> rfl), by repeat (first | (with_reducible first | exact HB.out | apply below_alloc | apply pw_below_drewN | apply below_drew1) | exact HB.out)⟩
                            · rw [if_neg c58] at H
                              have c58b0 : ((rd t141 (ji53)) == 9) = false := beq_eq_false_iff_ne.mpr c58
                              have c58b1 : ((rd t141 (ji53)) != 9) = true := bne_iff_ne.mpr c58
                              obtain rfl := Option.some.inj H
                              obtain ⟨Ao62, co62, eo62⟩ := Kd.R_slice HO_5.out
                              subst eo62
                              have p159 : 0 ≤ ((ji53) : Int) := of_decide_eq_true (by first | (with_reducible assumption) | assumption)
                              have q159 : (ji53) < (t149.length : Int) := of_decide_eq_true (by first | (with_reducible assumption) | assumption)
                              obtain ⟨ad159, e159, hx159_0⟩ := Kd.at_int (Kd.R_reads' HO_5.out).2.2 (ji53) p159 q159
                              cases e159
                              replace p159 := eq_true p159
                              replace q159 := eq_true q159
                              have p160 : 0 ≤ ((ji53) : Int) := of_decide_eq_true (by first | (with_reducible assumption) | assumption)
                              have q160 : (ji53) < (t141.length : Int) := of_decide_eq_true (by first | (with_reducible assumption) | assumption)
                              obtain ⟨ad160, e160, hx160_0⟩ := Kd.at_int (Kd.R_reads' HO_3.out).2.2 (ji53) p160 q160
                              cases e160
                              replace p160 := eq_true p160
                              replace q160 := eq_true q160
                              go_wp2
                              go_ret
                              exact ⟨by first | rfl | (simp [errW_none, errW_some] <;> rfl) | (simp only [← hji53]; first | rfl | (simp [errW_none, errW_some] <;> rfl)) | (simp [*, errW_none, errW_some] <;> rfl), by repeat (first | (with_reducible first | exact HB.out | apply below_alloc | apply pw_below_drewN | apply below_drew1) | exact HB.out)⟩
                          · rw [if_neg c57] at H
                            exact absurd H (by simp)
                        · rw [if_neg c56] at H
                          have c56b0 : ((rd t149 (ji53)) == (wrap64 ((wrap64 (400 + (ji53))) - 144))) = false := beq_eq_false_iff_ne.mpr c56
                          have c56b1 : ((rd t149 (ji53)) != (wrap64 ((wrap64 (400 + (ji53))) - 144))) = true := bne_iff_ne.mpr c56
                          obtain rfl := Option.some.inj H
                          obtain ⟨Ao63, co63, eo63⟩ := Kd.R_slice HO_5.out
                          subst eo63
                          have p159 : 0 ≤ ((ji53) : Int) := of_decide_eq_true (by first | (with_reducible assumption) | assumption)
                          have q159 : (ji53) < (t149.length : Int) := of_decide_eq_true (by first | (with_reducible assumption) | assumption)
                          obtain ⟨ad159, e159, hx159_0⟩ := Kd.at_int (Kd.R_reads' HO_5.out).2.2 (ji53) p159 q159
                          cases e159
                          replace p159 := eq_true p159
                          replace q159 := eq_true q159
                          go_wp2
                          go_ret
                          exact ⟨by first | rfl | (simp [errW_none, errW_some] <;> rfl) | (simp only [← hji53]; first | rfl | (simp [errW_none, errW_some] <;> rfl)) | (simp [*, errW_none, errW_some] <;> rfl), by repeat (first | (with_reducible first | exact HB.out | apply below_alloc | apply pw_below_drewN | apply below_drew1) | exact HB.out)⟩
                      · rw [if_neg c55] at H
                        exact absurd H (by simp)
                    · rw [if_neg c54] at H
                      exact absurd H (by simp)
                  · rw [if_neg c52] at H
                    have c52b0 : decide (144 ≤ (wrap64 (Int.tmod (IntKind.u64.wrap (a0)) 288))) = false := decide_eq_false c52
                    clear c52
                    obtain ⟨ji64, hji64⟩ : ∃ j_ : Int, (wrap64 (Int.tmod (IntKind.u64.wrap (a0)) 288)) = j_ := ⟨_, rfl⟩
                    replace H : (if 0 ≤ (ji64) then (if (ji64) < (t149.length : Int) then (if (rd t149 (ji64)) = (wrap64 (48 + (ji64))) then (if (ji64) < (t141.length : Int) then (if (rd t141 (ji64)) = 8 then ((wherrylaw05_wakes.f kj21).bind fun t164 => (some t164)) else (some false)) else (none)) else (some false)) else (none)) else (none)) = some r := by first | (rw [hji64] at H; exact H) | (simp only [hji64] at H ⊢; exact H)
                    (try rw [hji64] at c28b0)
                    (try rw [hji64] at c40b0)
                    (try rw [hji64] at c52b0)
                    have hji64w : (IntKind.i64.wrap (Int.tmod (IntKind.u64.wrap (a0)) 288)) = ji64 := (i64_w _).trans hji64
                    by_cases c65 : 0 ≤ (ji64)
                    · rw [if_pos c65] at H
                      have c65b0 : decide (0 ≤ (ji64)) = true := decide_eq_true c65
                      clear c65
                      by_cases c66 : (ji64) < (t149.length : Int)
                      · rw [if_pos c66] at H
                        have c66b0 : decide ((ji64) < (t149.length : Int)) = true := decide_eq_true c66
                        clear c66
                        by_cases c67 : (rd t149 (ji64)) = (wrap64 (48 + (ji64)))
                        · rw [if_pos c67] at H
                          have c67b0 : ((rd t149 (ji64)) == (wrap64 (48 + (ji64)))) = true := beq_iff_eq.mpr c67
                          have c67b1 : ((rd t149 (ji64)) != (wrap64 (48 + (ji64)))) = false := bne_eq_false_iff_eq.mpr c67
                          clear c67
                          by_cases c68 : (ji64) < (t141.length : Int)
                          · rw [if_pos c68] at H
                            have c68b0 : decide ((ji64) < (t141.length : Int)) = true := decide_eq_true c68
                            clear c68
                            by_cases c69 : (rd t141 (ji64)) = 8
                            · rw [if_pos c69] at H
                              have c69b0 : ((rd t141 (ji64)) == 8) = true := beq_iff_eq.mpr c69
                              have c69b1 : ((rd t141 (ji64)) != 8) = false := bne_eq_false_iff_eq.mpr c69
                              clear c69
                              replace H := Option.bind_eq_some_iff.mp H
                              obtain ⟨t164, A700, H⟩ := H
                              replace H : (some t164) = some r := H
                              have A70 := Aside0.mk A700
                              clear A700
                              obtain rfl := Option.some.inj H
                              obtain ⟨Ao71, co71, eo71⟩ := Kd.R_slice HO_5.out
                              subst eo71
                              have p162 : 0 ≤ ((ji64) : Int) := of_decide_eq_true (by first | (with_reducible assumption) | assumption)
                              have q162 : (ji64) < (t149.length : Int) := of_decide_eq_true (by first | (with_reducible assumption) | assumption)
                              obtain ⟨ad162, e162, hx162_0⟩ := Kd.at_int (Kd.R_reads' HO_5.out).2.2 (ji64) p162 q162
                              cases e162
                              replace p162 := eq_true p162
                              replace q162 := eq_true q162
                              have p163 : 0 ≤ ((ji64) : Int) := of_decide_eq_true (by first | (with_reducible assumption) | assumption)
                              have q163 : (ji64) < (t141.length : Int) := of_decide_eq_true (by first | (with_reducible assumption) | assumption)
                              obtain ⟨ad163, e163, hx163_0⟩ := Kd.at_int (Kd.R_reads' HO_3.out).2.2 (ji64) p163 q163
                              cases e163
                              replace p163 := eq_true p163
                              replace q163 := eq_true q163
                              go_wp2_with (first | (go_at_call 13; (with_reducible refine (wherrylaw05_wakes.calls kj21  t164 _ A70.out).mono ?_); rintro e w72 ⟨rfl, hb⟩; have n0_ := Aside0.mk (Kd.R_below (by (with_reducible repeat (first | apply Kd.R_alloc | apply Kd.R_drewN | apply Kd.R_drew)); exact HO_3.out) hb); have n1_ := Aside0.mk (Kd.R_below (by (with_reducible repeat (first | apply Kd.R_alloc | apply Kd.R_drewN | apply Kd.R_drew)); exact HO_5.out) hb); have n2_ := Aside0.mk (below_step (by repeat (first | (with_reducible first | exact HB.out | apply below_alloc | apply pw_below_drewN | apply below_drew1) | exact HB.out)) hb); clear HO_3; clear HO_5; clear HB; have HO_3 := n0_; have HO_5 := n1_; have HB := n2_; clear n0_ n1_ n2_; (try clear hb); (try clear hb2); (try clear hk); (try clear hi)))
                              go_ret
                              exact ⟨by first | rfl | (simp [errW_none, errW_some] <;> rfl) | (simp only [← hji64]; first | rfl | (simp [errW_none, errW_some] <;> rfl)) | (simp [*, errW_none, errW_some] <;> rfl), by repeat (first | (with_reducible first | exact HB.out | apply below_alloc | apply pw_below_drewN | apply below_drew1) | exact HB.out)⟩
                            · rw [if_neg c69] at H
                              have c69b0 : ((rd t141 (ji64)) == 8) = false := beq_eq_false_iff_ne.mpr c69
                              have c69b1 : ((rd t141 (ji64)) != 8) = true := bne_iff_ne.mpr c69
                              obtain rfl := Option.some.inj H
                              obtain ⟨Ao73, co73, eo73⟩ := Kd.R_slice HO_5.out
                              subst eo73
                              have p162 : 0 ≤ ((ji64) : Int) := of_decide_eq_true (by first | (with_reducible assumption) | assumption)
                              have q162 : (ji64) < (t149.length : Int) := of_decide_eq_true (by first | (with_reducible assumption) | assumption)
                              obtain ⟨ad162, e162, hx162_0⟩ := Kd.at_int (Kd.R_reads' HO_5.out).2.2 (ji64) p162 q162
                              cases e162
                              replace p162 := eq_true p162
                              replace q162 := eq_true q162
                              have p163 : 0 ≤ ((ji64) : Int) := of_decide_eq_true (by first | (with_reducible assumption) | assumption)
                              have q163 : (ji64) < (t141.length : Int) := of_decide_eq_true (by first | (with_reducible assumption) | assumption)
                              obtain ⟨ad163, e163, hx163_0⟩ := Kd.at_int (Kd.R_reads' HO_3.out).2.2 (ji64) p163 q163
                              cases e163
                              replace p163 := eq_true p163
                              replace q163 := eq_true q163
                              go_wp2
                              go_ret
                              exact ⟨by first | rfl | (simp [errW_none, errW_some] <;> rfl) | (simp only [← hji64]; first | rfl | (simp [errW_none, errW_some] <;> rfl)) | (simp [*, errW_none, errW_some] <;> rfl), by repeat (first | (with_reducible first | exact HB.out | apply below_alloc | apply pw_below_drewN | apply below_drew1) | exact HB.out)⟩
                          · rw [if_neg c68] at H
                            exact absurd H (by simp)
                        · rw [if_neg c67] at H
                          have c67b0 : ((rd t149 (ji64)) == (wrap64 (48 + (ji64)))) = false := beq_eq_false_iff_ne.mpr c67
                          have c67b1 : ((rd t149 (ji64)) != (wrap64 (48 + (ji64)))) = true := bne_iff_ne.mpr c67
                          obtain rfl := Option.some.inj H
                          obtain ⟨Ao74, co74, eo74⟩ := Kd.R_slice HO_5.out
                          subst eo74
                          have p162 : 0 ≤ ((ji64) : Int) := of_decide_eq_true (by first | (with_reducible assumption) | assumption)
                          have q162 : (ji64) < (t149.length : Int) := of_decide_eq_true (by first | (with_reducible assumption) | assumption)
                          obtain ⟨ad162, e162, hx162_0⟩ := Kd.at_int (Kd.R_reads' HO_5.out).2.2 (ji64) p162 q162
                          cases e162
                          replace p162 := eq_true p162
                          replace q162 := eq_true q162
                          go_wp2
                          go_ret
                          exact ⟨by first | rfl | (simp [errW_none, errW_some] <;> rfl) | (simp only [← hji64]; first | rfl | (simp [errW_none, errW_some] <;> rfl)) | (simp [*, errW_none, errW_some] <;> rfl), by repeat (first | (with_reducible first | exact HB.out | apply below_alloc | apply pw_below_drewN | apply below_drew1) | exact HB.out)⟩
                      · rw [if_neg c66] at H
                        exact absurd H (by simp)
                    · rw [if_neg c65] at H
                      exact absurd H (by simp)

/-- THE ONE PURE STATEMENT of wherrylaw05_SymFixed: yours. -/
def wherrylaw05_SymFixed.Pure : Prop := ∀ (a0 : Int), (Lit.int .i64 a0).wf = true → ∃ k, wherrylaw05_SymFixed.f k a0 = some true
theorem wherrylaw05_SymFixed.walk (P : wherrylaw05_SymFixed.Pure) (a0 : Int) (w : World) (w0 : (Lit.int .i64 a0).wf = true) :
    Calls Try.prog 7 #[.int .i64 a0] w fun e w' => e = .returned (.bool true) ∧ Below w.heap.size w w' := by
  obtain ⟨k, h⟩ := P a0 w0
  refine (wherrylaw05_SymFixed.calls k a0 true w h).mono ?_
  rintro e w' ⟨rfl, hd⟩
  exact ⟨rfl, hd⟩

-- PART
end Go.Proofs.Ytfghmdjlhfclaaa.P
