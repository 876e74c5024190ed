-- Written by a program of this session out of the translation. Lean checks it.
import Derived.Test.YtnfagiofoicgoaaPx0
import Derived.Test.YtnfagiofoicgoaaPx4
namespace Go.Proofs.Ytnfagiofoicgoaa.P
open Go.RowKit Go.Proofs.YtnfagiofoicgoaaW.PrintWords Go.Proofs.YtnfagiofoicgoaaW.PrintLast Go.Proofs.YtnfagiofoicgoaaW.PrintMore
attribute [local go_sem] max2_int min2_int max_two min_two max_three min_three max_four min_four   -- for this text's walks alone
set_option linter.unusedVariables false
set_option linter.unusedSimpArgs false

-- PART
/-! ### wherrylaw01_BitsParts: function 4 -/
mutual
def wherrylaw01_BitsParts.j0 : Nat → List Int → Int → Int → Int → Bool → Option (Bool)
  | 0, _, _, _, _, _ => none
  | k + 1, x0, x1, x2, x3, x25 => if x25 = true then (some true) else (if (IntKind.u64.wrap (wrap64 (8 * (x0.length : Int)))) = 0 then (none) else ((bits_Get.f k x0 (wrap64 (Int.tmod (IntKind.u64.wrap (x1)) (IntKind.u64.wrap (wrap64 (8 * (x0.length : Int)))))) (wrap64 (Int.tmod (IntKind.u64.wrap (x2)) 13))).bind fun bt143 => ((bits_Get.f k x0 bt143.2.1 (wrap64 (Int.tmod (IntKind.u64.wrap (x3)) 12))).bind fun bt146 => ((bits_Get.f k x0 (wrap64 (Int.tmod (IntKind.u64.wrap (x1)) (IntKind.u64.wrap (wrap64 (8 * (x0.length : Int)))))) (wrap64 ((wrap64 (Int.tmod (IntKind.u64.wrap (x2)) 13)) + (wrap64 (Int.tmod (IntKind.u64.wrap (x3)) 12))))).bind fun bt149 => (if bt143.2.2 = 0 then (if bt146.2.2 = 0 then (wherrylaw01_BitsParts.j1 k (wrap64 (Int.tmod (IntKind.u64.wrap (x2)) 13)) bt143.1 bt146.1 bt146.2.1 bt149.1 bt149.2.1 bt149.2.2 false) else (wherrylaw01_BitsParts.j1 k (wrap64 (Int.tmod (IntKind.u64.wrap (x2)) 13)) bt143.1 bt146.1 bt146.2.1 bt149.1 bt149.2.1 bt149.2.2 (bt143.2.2 == 0))) else (wherrylaw01_BitsParts.j1 k (wrap64 (Int.tmod (IntKind.u64.wrap (x2)) 13)) bt143.1 bt146.1 bt146.2.1 bt149.1 bt149.2.1 bt149.2.2 true))))))
def wherrylaw01_BitsParts.j1 : Nat → Int → Int → Int → Int → Int → Int → Int → Bool → Option (Bool)
  | 0, _, _, _, _, _, _, _, _ => none
  | k + 1, x2, x9, x12, x13, x15, x16, x17, x77 => if x77 = true then (if x17 = 3 then ((wherrylaw01_wakes.f k).bind fun t152 => (some t152)) else (some false)) else (if x17 = 0 then (if 0 ≤ (IntKind.u64.wrap (x2)) then (if x15 = (Go.bits .or .i64 x9 (shl .i64 x12 (IntKind.u64.wrap (x2)))) then (if x13 = x16 then ((wherrylaw01_wakes.f k).bind fun t153 => (some t153)) else (some false)) else (some false)) else (none)) else (some false))
end
def wherrylaw01_BitsParts.f (k : Nat) (l0 : List Int) (a1 : Int) (a2 : Int) (a3 : Int) : Option (Bool) := if (l0.length : Int) > 600 then (wherrylaw01_BitsParts.j0 k l0 a1 a2 a3 true) else (wherrylaw01_BitsParts.j0 k l0 a1 a2 a3 ((l0.length : Int) == 0))
theorem wherrylaw01_BitsParts.mono_l : ∀ k, (∀ y0 y1 y2 y3 y4, LeO (wherrylaw01_BitsParts.j0 k y0 y1 y2 y3 y4) (wherrylaw01_BitsParts.j0 (k + 1) y0 y1 y2 y3 y4)) ∧ (∀ y0 y1 y2 y3 y4 y5 y6 y7, LeO (wherrylaw01_BitsParts.j1 k y0 y1 y2 y3 y4 y5 y6 y7) (wherrylaw01_BitsParts.j1 (k + 1) y0 y1 y2 y3 y4 y5 y6 y7))
  | 0 => ⟨fun _ _ _ _ _ r h => by simp [wherrylaw01_BitsParts.j0] at h, fun _ _ _ _ _ _ _ _ r h => by simp [wherrylaw01_BitsParts.j1] at h⟩
  | k + 1 => by
    obtain ⟨ih0, ih1⟩ := wherrylaw01_BitsParts.mono_l k
    refine ⟨?_, ?_⟩
    · intro y0 y1 y2 y3 y4
      unfold wherrylaw01_BitsParts.j0
      repeat' first
      | (with_reducible exact ih0 _ _ _ _ _)
      | (with_reducible exact ih1 _ _ _ _ _ _ _ _)
      | (with_reducible exact bits_Get.mono _ _ _ _)
      | (with_reducible exact wherrylaw01_wakes.mono _)
      | (with_reducible exact LeO.refl _)
      | (with_reducible exact LeO.none _)
      | (with_reducible refine LeO.ite ?_ ?_)
      | (with_reducible refine LeO.bind ?_ (fun _ => ?_))
      | exact ih0 _ _ _ _ _
      | exact ih1 _ _ _ _ _ _ _ _
      | exact bits_Get.mono _ _ _ _
      | exact wherrylaw01_wakes.mono _
      | exact LeO.none _
      | refine LeO.ite ?_ ?_
      | refine LeO.bind ?_ (fun _ => ?_)
    · intro y0 y1 y2 y3 y4 y5 y6 y7
      unfold wherrylaw01_BitsParts.j1
      repeat' first
      | (with_reducible exact ih0 _ _ _ _ _)
      | (with_reducible exact ih1 _ _ _ _ _ _ _ _)
      | (with_reducible exact bits_Get.mono _ _ _ _)
      | (with_reducible exact wherrylaw01_wakes.mono _)
      | (with_reducible exact LeO.refl _)
      | (with_reducible exact LeO.none _)
      | (with_reducible refine LeO.ite ?_ ?_)
      | (with_reducible refine LeO.bind ?_ (fun _ => ?_))
      | exact ih0 _ _ _ _ _
      | exact ih1 _ _ _ _ _ _ _ _
      | exact bits_Get.mono _ _ _ _
      | exact wherrylaw01_wakes.mono _
      | exact LeO.none _
      | refine LeO.ite ?_ ?_
      | refine LeO.bind ?_ (fun _ => ?_)
theorem wherrylaw01_BitsParts.mono : ∀ a0 a1 a2 a3 k, LeO (wherrylaw01_BitsParts.f k a0 a1 a2 a3) (wherrylaw01_BitsParts.f (k + 1) a0 a1 a2 a3) := by
  intro a0 a1 a2 a3 k
  obtain ⟨ih0, ih1⟩ := wherrylaw01_BitsParts.mono_l k
  unfold wherrylaw01_BitsParts.f
  repeat' first
      | (with_reducible exact ih0 _ _ _ _ _)
      | (with_reducible exact ih1 _ _ _ _ _ _ _ _)
      | (with_reducible exact bits_Get.mono _ _ _ _)
      | (with_reducible exact wherrylaw01_wakes.mono _)
      | (with_reducible exact LeO.refl _)
      | (with_reducible exact LeO.none _)
      | (with_reducible refine LeO.ite ?_ ?_)
      | (with_reducible refine LeO.bind ?_ (fun _ => ?_))
      | exact ih0 _ _ _ _ _
      | exact ih1 _ _ _ _ _ _ _ _
      | exact bits_Get.mono _ _ _ _
      | exact wherrylaw01_wakes.mono _
      | exact LeO.none _
      | refine LeO.ite ?_ ?_
      | refine LeO.bind ?_ (fun _ => ?_)
set_option maxHeartbeats 8000000 in
set_option maxRecDepth 100000 in
theorem wherrylaw01_BitsParts.calls (k : Nat) (A0 : Option Addr) (c0 : Nat) (l0 : List Int) (a1 : Int) (a2 : Int) (a3 : Int) (r : Bool) (w : World) (hr0 : Kd.C (Kd.int .u8) w A0 l0.length l0) (hc0 : l0.length ≤ c0) (h : wherrylaw01_BitsParts.f k l0 a1 a2 a3 = some r) :
    Calls Try.prog 4 #[.slice A0 l0.length c0, .int .i64 a1, .int .i64 a2, .int .i64 a3] w fun e w' => e = .returned (.bool r) ∧ Below w.heap.size w w' := by
  have HR0 := Aside0.mk hr0
  have HC0 := Aside0.mk hc0
  clear hr0 hc0
  have HB := Aside0.mk (Below.refl w.heap.size w)
  have H : (if (l0.length : Int) > 600 then (wherrylaw01_BitsParts.j0 k l0 a1 a2 a3 true) else (wherrylaw01_BitsParts.j0 k l0 a1 a2 a3 ((l0.length : Int) == 0))) = some r := h
  clear h
  have HC5 := Aside0.mk H
  clear H
  go_enter Try.func4, Try.ntmps4
  go_upto_region 1 with (fail)
  go_cut [25] (fun v25 wc => ∃ (kq : Nat) (x25_4 : Bool), v25 = .bool x25_4 ∧ Aside0 (wherrylaw01_BitsParts.j0 kq l0 a1 a2 a3 x25_4 = some r) ∧ Aside0 (kq ≤ k) ∧ Aside0 (Below w.heap.size w wc))
  case first =>
    have H := HC5.out
    clear HC5
    by_cases c6 : (l0.length : Int) > 600
    · rw [if_pos c6] at H
      have c6b0 : decide (600 < (l0.length : Int)) = true := decide_eq_true c6
      have c6b1 : decide (600 < l0.length) = true := decide_eq_true (by omega)
      clear c6
      (first | rw [c6b0] | (simp only [i64_w, i32_w]; rw [c6b0]) | skip)
      have H' := Aside0.mk H
      clear H
      go_wp2
      go_meet
      case rel => exact ⟨_, (true), (by first | rfl | (simp; done) | (simp [*]; done)), H', ⟨by first | omega | exact Nat.le_refl _⟩, ⟨by repeat (first | (with_reducible first | exact HB.out | apply below_alloc | apply pw_below_drewN | apply below_drew1) | exact HB.out)⟩⟩
    · rw [if_neg c6] at H
      have c6b0 : decide (600 < (l0.length : Int)) = false := decide_eq_false c6
      have c6b1 : decide (600 < l0.length) = false := decide_eq_false (by omega)
      clear c6
      (first | rw [c6b0] | (simp only [i64_w, i32_w]; rw [c6b0]) | skip)
      have H' := Aside0.mk H
      clear H
      go_wp2
      go_meet
      case rel => exact ⟨_, (((l0.length : Int) == 0)), (by first | rfl | (simp; done) | (simp [*]; done)), H', ⟨by first | omega | exact Nat.le_refl _⟩, ⟨by repeat (first | (with_reducible first | exact HB.out | apply below_alloc | apply pw_below_drewN | apply below_drew1) | exact HB.out)⟩⟩
  case rest =>
    clear HC5
    try clear p2
    try clear c4
    try clear c6
    try clear c6b0
    try clear c6b1
    obtain ⟨kq, x25_4, rfl, HA, HJ4, HB⟩ := hcut
    cases kq with
    | zero => exact absurd HA.out (by simp [wherrylaw01_BitsParts.j0])
    | succ kj4 =>
      have H := HA.out
      clear HA
      simp only [wherrylaw01_BitsParts.j0] at H
      by_cases c7 : x25_4 = true
      · subst c7
        have H1 : (some true) = some r := by rw [if_pos rfl] at H; exact H
        clear H
        have H := H1
        clear H1
        obtain rfl := Option.some.inj H
        go_wp2
        go_ret
        exact ⟨by first | rfl | (simp [errW_none, errW_some] <;> rfl) | (simp [*, errW_none, errW_some] <;> rfl), by repeat (first | (with_reducible first | exact HB.out | apply below_alloc | apply pw_below_drewN | apply below_drew1) | exact HB.out)⟩
      · replace c7 := Bool.eq_false_iff.mpr c7
        subst c7
        have H1 : (if (IntKind.u64.wrap (wrap64 (8 * (l0.length : Int)))) = 0 then (none) else ((bits_Get.f kj4 l0 (wrap64 (Int.tmod (IntKind.u64.wrap (a1)) (IntKind.u64.wrap (wrap64 (8 * (l0.length : Int)))))) (wrap64 (Int.tmod (IntKind.u64.wrap (a2)) 13))).bind fun bt143 => ((bits_Get.f kj4 l0 bt143.2.1 (wrap64 (Int.tmod (IntKind.u64.wrap (a3)) 12))).bind fun bt146 => ((bits_Get.f kj4 l0 (wrap64 (Int.tmod (IntKind.u64.wrap (a1)) (IntKind.u64.wrap (wrap64 (8 * (l0.length : Int)))))) (wrap64 ((wrap64 (Int.tmod (IntKind.u64.wrap (a2)) 13)) + (wrap64 (Int.tmod (IntKind.u64.wrap (a3)) 12))))).bind fun bt149 => (if bt143.2.2 = 0 then (if bt146.2.2 = 0 then (wherrylaw01_BitsParts.j1 kj4 (wrap64 (Int.tmod (IntKind.u64.wrap (a2)) 13)) bt143.1 bt146.1 bt146.2.1 bt149.1 bt149.2.1 bt149.2.2 false) else (wherrylaw01_BitsParts.j1 kj4 (wrap64 (Int.tmod (IntKind.u64.wrap (a2)) 13)) bt143.1 bt146.1 bt146.2.1 bt149.1 bt149.2.1 bt149.2.2 (bt143.2.2 == 0))) else (wherrylaw01_BitsParts.j1 kj4 (wrap64 (Int.tmod (IntKind.u64.wrap (a2)) 13)) bt143.1 bt146.1 bt146.2.1 bt149.1 bt149.2.1 bt149.2.2 true)))))) = some r := by rw [if_neg (show ¬ (false = true) by decide)] at H; exact H
        clear H
        have H := H1
        clear H1
        by_cases c8 : (IntKind.u64.wrap (wrap64 (8 * (l0.length : Int)))) = 0
        · rw [if_pos c8] at H
          exact absurd H (by simp)
        · rw [if_neg c8] at H
          have c8b0 : ((IntKind.u64.wrap (wrap64 (8 * (l0.length : Int)))) == 0) = false := beq_eq_false_iff_ne.mpr c8
          have c8b1 : ((IntKind.u64.wrap (wrap64 (8 * (l0.length : Int)))) != 0) = true := bne_iff_ne.mpr c8
          replace H := Option.bind_eq_some_iff.mp H
          obtain ⟨⟨t143, t144, t145⟩, A90, H⟩ := H
          replace H : ((bits_Get.f kj4 l0 t144 (wrap64 (Int.tmod (IntKind.u64.wrap (a3)) 12))).bind fun bt146 => ((bits_Get.f kj4 l0 (wrap64 (Int.tmod (IntKind.u64.wrap (a1)) (IntKind.u64.wrap (wrap64 (8 * (l0.length : Int)))))) (wrap64 ((wrap64 (Int.tmod (IntKind.u64.wrap (a2)) 13)) + (wrap64 (Int.tmod (IntKind.u64.wrap (a3)) 12))))).bind fun bt149 => (if t145 = 0 then (if bt146.2.2 = 0 then (wherrylaw01_BitsParts.j1 kj4 (wrap64 (Int.tmod (IntKind.u64.wrap (a2)) 13)) t143 bt146.1 bt146.2.1 bt149.1 bt149.2.1 bt149.2.2 false) else (wherrylaw01_BitsParts.j1 kj4 (wrap64 (Int.tmod (IntKind.u64.wrap (a2)) 13)) t143 bt146.1 bt146.2.1 bt149.1 bt149.2.1 bt149.2.2 (t145 == 0))) else (wherrylaw01_BitsParts.j1 kj4 (wrap64 (Int.tmod (IntKind.u64.wrap (a2)) 13)) t143 bt146.1 bt146.2.1 bt149.1 bt149.2.1 bt149.2.2 true)))) = some r := H
          have A9 := Aside0.mk A90
          clear A90
          replace H := Option.bind_eq_some_iff.mp H
          obtain ⟨⟨t146, t147, t148⟩, A100, H⟩ := H
          replace H : ((bits_Get.f kj4 l0 (wrap64 (Int.tmod (IntKind.u64.wrap (a1)) (IntKind.u64.wrap (wrap64 (8 * (l0.length : Int)))))) (wrap64 ((wrap64 (Int.tmod (IntKind.u64.wrap (a2)) 13)) + (wrap64 (Int.tmod (IntKind.u64.wrap (a3)) 12))))).bind fun bt149 => (if t145 = 0 then (if t148 = 0 then (wherrylaw01_BitsParts.j1 kj4 (wrap64 (Int.tmod (IntKind.u64.wrap (a2)) 13)) t143 t146 t147 bt149.1 bt149.2.1 bt149.2.2 false) else (wherrylaw01_BitsParts.j1 kj4 (wrap64 (Int.tmod (IntKind.u64.wrap (a2)) 13)) t143 t146 t147 bt149.1 bt149.2.1 bt149.2.2 (t145 == 0))) else (wherrylaw01_BitsParts.j1 kj4 (wrap64 (Int.tmod (IntKind.u64.wrap (a2)) 13)) t143 t146 t147 bt149.1 bt149.2.1 bt149.2.2 true))) = some r := H
          have A10 := Aside0.mk A100
          clear A100
          replace H := Option.bind_eq_some_iff.mp H
          obtain ⟨⟨t149, t150, t151⟩, A110, H⟩ := H
          replace H : (if t145 = 0 then (if t148 = 0 then (wherrylaw01_BitsParts.j1 kj4 (wrap64 (Int.tmod (IntKind.u64.wrap (a2)) 13)) t143 t146 t147 t149 t150 t151 false) else (wherrylaw01_BitsParts.j1 kj4 (wrap64 (Int.tmod (IntKind.u64.wrap (a2)) 13)) t143 t146 t147 t149 t150 t151 (t145 == 0))) else (wherrylaw01_BitsParts.j1 kj4 (wrap64 (Int.tmod (IntKind.u64.wrap (a2)) 13)) t143 t146 t147 t149 t150 t151 true)) = some r := H
          have A11 := Aside0.mk A110
          clear A110
          have HC12 := Aside0.mk H
          clear H
          go_upto_region 8 with (first | ((with_reducible refine gate_callee (f := 10) rfl ?_); refine goesL_ (some 46) rfl rfl Try.func10 (by kernel_rfl) rfl #[.slice A0 l0.length c0, .int .i64 (wrap64 (Int.tmod (IntKind.u64.wrap (a1)) (IntKind.u64.wrap (wrap64 (8 * (l0.length : Int)))))), .int .i64 (wrap64 (Int.tmod (IntKind.u64.wrap (a2)) 13))] rfl (by (try simp only [List.map_toArray, List.map_cons, List.map_nil]); first | done | rfl | (simp only [List.length_drop, List.length_take]; rfl)) ?_; (with_reducible refine (bits_Get.calls kj4 _ _ l0 (wrap64 (Int.tmod (IntKind.u64.wrap (a1)) (IntKind.u64.wrap (wrap64 (8 * (l0.length : Int)))))) (wrap64 (Int.tmod (IntKind.u64.wrap (a2)) 13)) t143 t144 t145 _ ?side1 ?side2 A9.out).mono ?_); (case side1 => repeat (first | exact (Kd.C_below HR0.out HB.out) | (with_reducible refine Kd.C_alloc ?_ _) | (with_reducible refine Kd.C_drewN ?_ _) | (with_reducible refine Kd.C_drew ?_))); (case side2 => exact HC0.out); rintro e w' ⟨rfl, ⟨nd, rfl⟩⟩; refine ⟨_, rfl, ?_⟩) | ((with_reducible refine gate_callee (f := 10) rfl ?_); refine goesL_ (some 54) rfl rfl Try.func10 (by kernel_rfl) rfl #[.slice A0 l0.length c0, .int .i64 t144, .int .i64 (wrap64 (Int.tmod (IntKind.u64.wrap (a3)) 12))] rfl (by (try simp only [List.map_toArray, List.map_cons, List.map_nil]); first | done | rfl | (simp only [List.length_drop, List.length_take]; rfl)) ?_; (with_reducible refine (bits_Get.calls kj4 _ _ l0 t144 (wrap64 (Int.tmod (IntKind.u64.wrap (a3)) 12)) t146 t147 t148 _ ?side1 ?side2 A10.out).mono ?_); (case side1 => repeat (first | exact (Kd.C_below HR0.out (by repeat (first | (with_reducible first | exact HB.out | apply below_alloc | apply pw_below_drewN | apply below_drew1) | exact HB.out))) | (with_reducible refine Kd.C_alloc ?_ _) | (with_reducible refine Kd.C_drewN ?_ _) | (with_reducible refine Kd.C_drew ?_))); (case side2 => exact HC0.out); rintro e w' ⟨rfl, ⟨nd, rfl⟩⟩; refine ⟨_, rfl, ?_⟩) | ((with_reducible refine gate_callee (f := 10) rfl ?_); refine goesL_ (some 64) rfl rfl Try.func10 (by kernel_rfl) rfl #[.slice A0 l0.length c0, .int .i64 (wrap64 (Int.tmod (IntKind.u64.wrap (a1)) (IntKind.u64.wrap (wrap64 (8 * (l0.length : Int)))))), .int .i64 (wrap64 ((wrap64 (Int.tmod (IntKind.u64.wrap (a2)) 13)) + (wrap64 (Int.tmod (IntKind.u64.wrap (a3)) 12))))] rfl (by (try simp only [List.map_toArray, List.map_cons, List.map_nil]); first | done | rfl | (simp only [List.length_drop, List.length_take]; rfl)) ?_; (with_reducible refine (bits_Get.calls kj4 _ _ l0 (wrap64 (Int.tmod (IntKind.u64.wrap (a1)) (IntKind.u64.wrap (wrap64 (8 * (l0.length : Int)))))) (wrap64 ((wrap64 (Int.tmod (IntKind.u64.wrap (a2)) 13)) + (wrap64 (Int.tmod (IntKind.u64.wrap (a3)) 12)))) t149 t150 t151 _ ?side1 ?side2 A11.out).mono ?_); (case side1 => repeat (first | exact (Kd.C_below HR0.out (by repeat (first | (with_reducible first | exact HB.out | apply below_alloc | apply pw_below_drewN | apply below_drew1) | exact HB.out))) | (with_reducible refine Kd.C_alloc ?_ _) | (with_reducible refine Kd.C_drewN ?_ _) | (with_reducible refine Kd.C_drew ?_))); (case side2 => exact HC0.out); rintro e w' ⟨rfl, ⟨nd, rfl⟩⟩; refine ⟨_, rfl, ?_⟩))
          (try simp only [Act.put, List.setIfInBounds_toArray, List.set_cons_zero, List.set_cons_succ])
          go_cut [77] (fun v77 wc => ∃ (kq : Nat) (x77_11 : Bool), v77 = .bool x77_11 ∧ Aside0 (wherrylaw01_BitsParts.j1 kq (wrap64 (Int.tmod (IntKind.u64.wrap (a2)) 13)) t143 t146 t147 t149 t150 t151 x77_11 = some r) ∧ Aside0 (kq ≤ kj4) ∧ Aside0 (Below w.heap.size w wc))
          case first =>
            have H := HC12.out
            clear HC12
            by_cases c13 : t145 = 0
            · rw [if_pos c13] at H
              have c13b0 : (t145 == 0) = true := beq_iff_eq.mpr c13
              have c13b1 : (t145 != 0) = false := bne_eq_false_iff_eq.mpr c13
              clear c13
              (first | rw [c13b0] | (simp only [i64_w, i32_w]; rw [c13b0]) | skip)
              by_cases c14 : t148 = 0
              · rw [if_pos c14] at H
                have c14b0 : (t148 == 0) = true := beq_iff_eq.mpr c14
                have c14b1 : (t148 != 0) = false := bne_eq_false_iff_eq.mpr c14
                clear c14
                have H' := Aside0.mk H
                clear H
                go_wp2
                go_meet
                case rel => exact ⟨_, (false), (by first | rfl | (simp; done) | (simp [*]; done)), H', ⟨by have := HJ4.out; first | omega | exact Nat.le_refl _⟩, ⟨by repeat (first | (with_reducible first | exact HB.out | apply below_alloc | apply pw_below_drewN | apply below_drew1) | exact HB.out)⟩⟩
              · rw [if_neg c14] at H
                have c14b0 : (t148 == 0) = false := beq_eq_false_iff_ne.mpr c14
                have c14b1 : (t148 != 0) = true := bne_iff_ne.mpr c14
                have H' := Aside0.mk H
                clear H
                go_wp2
                go_meet
                case rel => exact ⟨_, ((t145 == 0)), (by first | rfl | (simp; done) | (simp [*]; done)), H', ⟨by have := HJ4.out; first | omega | exact Nat.le_refl _⟩, ⟨by repeat (first | (with_reducible first | exact HB.out | apply below_alloc | apply pw_below_drewN | apply below_drew1) | exact HB.out)⟩⟩
            · rw [if_neg c13] at H
              have c13b0 : (t145 == 0) = false := beq_eq_false_iff_ne.mpr c13
              have c13b1 : (t145 != 0) = true := bne_iff_ne.mpr c13
              (first | rw [c13b0] | (simp only [i64_w, i32_w]; rw [c13b0]) | skip)
              have H' := Aside0.mk H
              clear H
              go_wp2
              go_meet
              case rel => exact ⟨_, (true), (by first | rfl | (simp; done) | (simp [*]; done)), H', ⟨by have := HJ4.out; first | omega | exact Nat.le_refl _⟩, ⟨by repeat (first | (with_reducible first | exact HB.out | apply below_alloc | apply pw_below_drewN | apply below_drew1) | exact HB.out)⟩⟩
          case rest =>
            clear HC12
            try clear c1
            try clear p2
            try clear c4
            try clear c6
            try clear c6b0
            try clear c6b1
            try clear p6
            try clear c7
            try clear c8
            try clear c8b0
            try clear c8b1
            try clear c10
            try clear c13
            try clear c13b0
            try clear c13b1
            try clear c14
            try clear c14b0
            try clear c14b1
            try clear p2
            obtain ⟨kq, x77_11, rfl, HA, HJ11, HB⟩ := hcut
            cases kq with
            | zero => exact absurd HA.out (by simp [wherrylaw01_BitsParts.j1])
            | succ kj11 =>
              have H := HA.out
              clear HA
              simp only [wherrylaw01_BitsParts.j1] at H
              by_cases c15 : x77_11 = true
              · subst c15
                have H1 : (if t151 = 3 then ((wherrylaw01_wakes.f kj11).bind fun t152 => (some t152)) else (some false)) = some r := by rw [if_pos rfl] at H; exact H
                clear H
                have H := H1
                clear H1
                by_cases c16 : t151 = 3
                · rw [if_pos c16] at H
                  have c16b0 : (t151 == 3) = true := beq_iff_eq.mpr c16
                  have c16b1 : (t151 != 3) = false := bne_eq_false_iff_eq.mpr c16
                  clear c16
                  replace H := Option.bind_eq_some_iff.mp H
                  obtain ⟨t152, A170, H⟩ := H
                  replace H : (some t152) = some r := H
                  have A17 := Aside0.mk A170
                  clear A170
                  obtain rfl := Option.some.inj H
                  go_wp2_with (first | (go_at_call 12; (with_reducible refine (wherrylaw01_wakes.calls kj11  t152 _ A17.out).mono ?_); rintro e w18 ⟨rfl, hb⟩; have n0_ := Aside0.mk (below_step (by repeat (first | (with_reducible first | exact HB.out | apply below_alloc | apply pw_below_drewN | apply below_drew1) | exact HB.out)) hb); clear HB; have HB := n0_; clear n0_; (try clear hb); (try clear hb2); (try clear hk); (try clear hi)))
                  go_ret
                  exact ⟨by first | rfl | (simp [errW_none, errW_some] <;> rfl) | (simp [*, errW_none, errW_some] <;> rfl), by repeat (first | (with_reducible first | exact HB.out | apply below_alloc | apply pw_below_drewN | apply below_drew1) | exact HB.out)⟩
                · rw [if_neg c16] at H
                  have c16b0 : (t151 == 3) = false := beq_eq_false_iff_ne.mpr c16
                  have c16b1 : (t151 != 3) = true := bne_iff_ne.mpr c16
                  obtain rfl := Option.some.inj H
                  go_wp2
                  go_ret
                  exact ⟨by first | rfl | (simp [errW_none, errW_some] <;> rfl) | (simp [*, errW_none, errW_some] <;> rfl), by repeat (first | (with_reducible first | exact HB.out | apply below_alloc | apply pw_below_drewN | apply below_drew1) | exact HB.out)⟩
              · replace c15 := Bool.eq_false_iff.mpr c15
                subst c15
                have H1 : (if t151 = 0 then (if 0 ≤ (IntKind.u64.wrap ((wrap64 (Int.tmod (IntKind.u64.wrap (a2)) 13)))) then (if t149 = (Go.bits .or .i64 t143 (shl .i64 t146 (IntKind.u64.wrap ((wrap64 (Int.tmod (IntKind.u64.wrap (a2)) 13)))))) then (if t147 = t150 then ((wherrylaw01_wakes.f kj11).bind fun t153 => (some t153)) else (some false)) else (some false)) else (none)) else (some false)) = some r := by rw [if_neg (show ¬ (false = true) by decide)] at H; exact H
                clear H
                have H := H1
                clear H1
                by_cases c19 : t151 = 0
                · rw [if_pos c19] at H
                  have c19b0 : (t151 == 0) = true := beq_iff_eq.mpr c19
                  have c19b1 : (t151 != 0) = false := bne_eq_false_iff_eq.mpr c19
                  clear c19
                  obtain ⟨ji20, hji20⟩ : ∃ j_ : Int, (IntKind.u64.wrap ((wrap64 (Int.tmod (IntKind.u64.wrap (a2)) 13)))) = j_ := ⟨_, rfl⟩
                  replace H : (if 0 ≤ (ji20) then (if t149 = (Go.bits .or .i64 t143 (shl .i64 t146 (ji20))) then (if t147 = t150 then ((wherrylaw01_wakes.f kj11).bind fun t153 => (some t153)) else (some false)) else (some false)) else (none)) = some r := by first | (rw [hji20] at H; exact H) | (simp only [hji20] at H ⊢; exact H)
                  by_cases c21 : 0 ≤ (ji20)
                  · rw [if_pos c21] at H
                    have c21b0 := eq_true c21
                    have c21b1 : decide (0 ≤ (ji20)) = true := decide_eq_true c21
                    clear c21
                    obtain ⟨ji22, hji22⟩ : ∃ j_ : Int, (shl .i64 t146 (ji20)) = j_ := ⟨_, rfl⟩
                    replace H : (if t149 = (Go.bits .or .i64 t143 (ji22)) then (if t147 = t150 then ((wherrylaw01_wakes.f kj11).bind fun t153 => (some t153)) else (some false)) else (some false)) = some r := by first | (rw [hji22] at H; exact H) | (simp only [hji22] at H ⊢; exact H)
                    have hji22_ : (IntKind.i64.wrap (t146 * 2 ^ min (ji20).toNat 64)) = ji22 := hji22
                    have hji22z : (ji20) ≤ 64 → (IntKind.i64.wrap (t146 * 2 ^ (ji20).toNat)) = ji22 := shl_small hji22
                    have hji22y : (wrap64 (t146 * 2 ^ min (ji20).toNat 64)) = ji22 := (i64_w _).symm.trans hji22_
                    have hji22x : (ji20) ≤ 64 → (wrap64 (t146 * 2 ^ (ji20).toNat)) = ji22 := fun h_ => (i64_w _).symm.trans (hji22z h_)
                    by_cases c23 : t149 = (Go.bits .or .i64 t143 (ji22))
                    · rw [if_pos c23] at H
                      have c23b0 : (t149 == (Go.bits .or .i64 t143 (ji22))) = true := beq_iff_eq.mpr c23
                      have c23b1 : (t149 != (Go.bits .or .i64 t143 (ji22))) = false := bne_eq_false_iff_eq.mpr c23
                      clear c23
                      by_cases c24 : t147 = t150
                      · rw [if_pos c24] at H
                        have c24b0 : (t147 == t150) = true := beq_iff_eq.mpr c24
                        have c24b1 : (t147 != t150) = false := bne_eq_false_iff_eq.mpr c24
                        clear c24
                        replace H := Option.bind_eq_some_iff.mp H
                        obtain ⟨t153, A250, H⟩ := H
                        replace H : (some t153) = some r := H
                        have A25 := Aside0.mk A250
                        clear A250
                        obtain rfl := Option.some.inj H
                        go_wp2_with (first | (go_at_call 12; (with_reducible refine (wherrylaw01_wakes.calls kj11  t153 _ A25.out).mono ?_); rintro e w26 ⟨rfl, hb⟩; have n0_ := Aside0.mk (below_step (by repeat (first | (with_reducible first | exact HB.out | apply below_alloc | apply pw_below_drewN | apply below_drew1) | exact HB.out)) hb); clear HB; have HB := n0_; clear n0_; (try clear hb); (try clear hb2); (try clear hk); (try clear hi)))
                        go_ret
                        exact ⟨by first | rfl | (simp [errW_none, errW_some] <;> rfl) | (simp only [← hji20, ← hji22]; first | rfl | (simp [errW_none, errW_some] <;> rfl)) | (simp [*, errW_none, errW_some] <;> rfl), by repeat (first | (with_reducible first | exact HB.out | apply below_alloc | apply pw_below_drewN | apply below_drew1) | exact HB.out)⟩
                      · rw [if_neg c24] at H
                        have c24b0 : (t147 == t150) = false := beq_eq_false_iff_ne.mpr c24
                        have c24b1 : (t147 != t150) = true := bne_iff_ne.mpr c24
                        obtain rfl := Option.some.inj H
                        go_wp2
                        go_ret
                        exact ⟨by first | rfl | (simp [errW_none, errW_some] <;> rfl) | (simp only [← hji20, ← hji22]; first | rfl | (simp [errW_none, errW_some] <;> rfl)) | (simp [*, errW_none, errW_some] <;> rfl), by repeat (first | (with_reducible first | exact HB.out | apply below_alloc | apply pw_below_drewN | apply below_drew1) | exact HB.out)⟩
                    · rw [if_neg c23] at H
                      have c23b0 : (t149 == (Go.bits .or .i64 t143 (ji22))) = false := beq_eq_false_iff_ne.mpr c23
                      have c23b1 : (t149 != (Go.bits .or .i64 t143 (ji22))) = true := bne_iff_ne.mpr c23
                      obtain rfl := Option.some.inj H
                      go_wp2
                      go_ret
                      exact ⟨by first | rfl | (simp [errW_none, errW_some] <;> rfl) | (simp only [← hji20, ← hji22]; first | rfl | (simp [errW_none, errW_some] <;> rfl)) | (simp [*, errW_none, errW_some] <;> rfl), by repeat (first | (with_reducible first | exact HB.out | apply below_alloc | apply pw_below_drewN | apply below_drew1) | exact HB.out)⟩
                  · rw [if_neg c21] at H
                    exact absurd H (by simp)
                · rw [if_neg c19] at H
                  have c19b0 : (t151 == 0) = false := beq_eq_false_iff_ne.mpr c19
                  have c19b1 : (t151 != 0) = true := bne_iff_ne.mpr c19
                  obtain rfl := Option.some.inj H
                  go_wp2
                  go_ret
                  exact ⟨by first | rfl | (simp [errW_none, errW_some] <;> rfl) | (simp [*, errW_none, errW_some] <;> rfl), by repeat (first | (with_reducible first | exact HB.out | apply below_alloc | apply pw_below_drewN | apply below_drew1) | exact HB.out)⟩

/-- THE ONE PURE STATEMENT of wherrylaw01_BitsParts: yours. -/
def wherrylaw01_BitsParts.Pure : Prop := ∀ (l0 : List Int) (a1 : Int) (a2 : Int) (a3 : Int), l0.length ≤ maxLen → l0.length * 1 ≤ 140737488351232 → (∀ x ∈ l0, (Lit.int .u8 x).wf = true) → (Lit.int .i64 a1).wf = true → (Lit.int .i64 a2).wf = true → (Lit.int .i64 a3).wf = true → ∃ k, wherrylaw01_BitsParts.f k l0 a1 a2 a3 = some true
theorem wherrylaw01_BitsParts.walk (P : wherrylaw01_BitsParts.Pure) (a0 : Option Addr) (len0 cap0 : Nat) (z0 : List Int) (a1 : Int) (a2 : Int) (a3 : Int) (w : World) (w0 : (a0 = none ∧ len0 = 0 ∧ cap0 = 0 ∧ z0 = []) ∨ ∃ x, a0 = some x ∧ len0 ≤ cap0 ∧ cap0 ≤ maxLen ∧ z0.length = cap0 ∧ (∀ i, i < z0.length → w.cell? (x.add i) = some (.int .u8 (z0.getD i 0))) ∧ ∀ n ∈ z0, (Lit.int .u8 n).wf = true) (y0 : len0 * 1 ≤ 140737488351232) (w1 : (Lit.int .i64 a1).wf = true) (w2 : (Lit.int .i64 a2).wf = true) (w3 : (Lit.int .i64 a3).wf = true) :
    Calls Try.prog 4 #[.slice a0 len0 cap0, .int .i64 a1, .int .i64 a2, .int .i64 a3] w fun e w' => e = .returned (.bool true) ∧ Below w.heap.size w w' := by
  obtain ⟨l0, rfl, hr0, hm0, hw0, hc0⟩ := ReadsInt.ofRowC w0
  obtain ⟨k, h⟩ := P l0 a1 a2 a3 hm0 y0 hw0 w1 w2 w3
  refine (wherrylaw01_BitsParts.calls k _ _ l0 a1 a2 a3 true w (Kd.C_of_reads (d := (0 : Int)) (h1 := fun _ => rfl) hr0) hc0 h).mono ?_
  rintro e w' ⟨rfl, hd⟩
  exact ⟨rfl, hd⟩

-- PART
end Go.Proofs.Ytnfagiofoicgoaa.P
