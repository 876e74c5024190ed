-- Written by a program of this session out of the translation. Lean checks it.
import Derived.Test.YtaoeghdpmmeaiaaPx0
import Derived.Test.YtaoeghdpmmeaiaaPx12
import Derived.Test.YtaoeghdpmmeaiaaPx14
import Derived.Test.YtaoeghdpmmeaiaaPx22
namespace Go.Proofs.Ytaoeghdpmmeaiaa.P
open Go.RowKit Go.Proofs.YtaoeghdpmmeaiaaW.PrintWords Go.Proofs.YtaoeghdpmmeaiaaW.PrintLast Go.Proofs.YtaoeghdpmmeaiaaW.PrintMore
attribute [local go_sem] max2_int min2_int max_two min_two max_three min_three max_four min_four   -- for this text's walks alone
set_option linter.unusedVariables false
set_option linter.unusedSimpArgs false

-- PART
/-! ### wherrylaw03_TreeDeep: function 10 -/
mutual
def wherrylaw03_TreeDeep.l0 : Nat → Int → Int → Int → Int → List Int → Int → Option (Bool)
  | 0, _, _, _, _, _, _ => none
  | k + 1, x0, x1, x5, x6, x7, x8 => if x8 < x0 then (if x7.length < 17592186044416 then (wherrylaw03_TreeDeep.l0 k x0 x1 x6 (wrap64 (x5 + x6)) (x7 ++ [x5]) (wrap64 (x8 + 1))) else (none)) else ((tree_Lengths.f x7 x1).bind fun bt326 => (if bt326.2 = 0 then (if (bt326.1.length : Int) = x0 then ((canon_Check.f bt326.1).bind fun t330 => (wherrylaw03_TreeDeep.j1 k x0 x1 bt326.1 (t330 != 0))) else (wherrylaw03_TreeDeep.j1 k x0 x1 bt326.1 true)) else (wherrylaw03_TreeDeep.j1 k x0 x1 bt326.1 true)))
def wherrylaw03_TreeDeep.j1 : Nat → Int → Int → List Int → Bool → Option (Bool)
  | 0, _, _, _, _ => none
  | k + 1, x0, x1, x9, x54 => if x54 = true then (some false) else (wherrylaw03_TreeDeep.l1 k x0 x1 x9 0 0)
def wherrylaw03_TreeDeep.l1 : Nat → Int → Int → List Int → Int → Int → Option (Bool)
  | 0, _, _, _, _, _ => none
  | k + 1, x0, x1, x9, x11, x12 => if x12 < x0 then (if 0 ≤ x12 then (if x12 < (x9.length : Int) then (wherrylaw03_TreeDeep.l1 k x0 x1 x9 (mx x11 (rd x9 x12)) (wrap64 (x12 + 1))) else (none)) else (none)) else (if (wrap64 (x0 - 1)) > x1 then (if x11 ≤ x1 then ((wherrylaw03_wakes.f k).bind fun t332 => (some t332)) else (some false)) else (if x11 = (wrap64 (x0 - 1)) then (if x11 ≤ x1 then ((wherrylaw03_wakes.f k).bind fun t333 => (some t333)) else (some false)) else (some false)))
end
def wherrylaw03_TreeDeep.f (k : Nat) (a0 : Int) (a1 : Int) : Option (Bool) := wherrylaw03_TreeDeep.l0 k (wrap64 (2 + (wrap64 (Int.tmod (IntKind.u64.wrap (a0)) 26)))) (wrap64 (9 + (wrap64 (Int.tmod (IntKind.u64.wrap (a1)) 7)))) 1 1 ([] : List Int) 0
theorem wherrylaw03_TreeDeep.mono_l : ∀ k, (∀ y0 y1 y2 y3 y4 y5, LeO (wherrylaw03_TreeDeep.l0 k y0 y1 y2 y3 y4 y5) (wherrylaw03_TreeDeep.l0 (k + 1) y0 y1 y2 y3 y4 y5)) ∧ (∀ y0 y1 y2 y3, LeO (wherrylaw03_TreeDeep.j1 k y0 y1 y2 y3) (wherrylaw03_TreeDeep.j1 (k + 1) y0 y1 y2 y3)) ∧ (∀ y0 y1 y2 y3 y4, LeO (wherrylaw03_TreeDeep.l1 k y0 y1 y2 y3 y4) (wherrylaw03_TreeDeep.l1 (k + 1) y0 y1 y2 y3 y4))
  | 0 => ⟨fun _ _ _ _ _ _ r h => by simp [wherrylaw03_TreeDeep.l0] at h, fun _ _ _ _ r h => by simp [wherrylaw03_TreeDeep.j1] at h, fun _ _ _ _ _ r h => by simp [wherrylaw03_TreeDeep.l1] at h⟩
  | k + 1 => by
    obtain ⟨ih0, ih1, ih2⟩ := wherrylaw03_TreeDeep.mono_l k
    refine ⟨?_, ?_, ?_⟩
    · intro y0 y1 y2 y3 y4 y5
      unfold wherrylaw03_TreeDeep.l0
      repeat' first
      | (with_reducible exact ih0 _ _ _ _ _ _)
      | (with_reducible exact ih1 _ _ _ _)
      | (with_reducible exact ih2 _ _ _ _ _)
      | (with_reducible exact wherrylaw03_wakes.mono _)
      | (with_reducible exact LeO.refl _)
      | (with_reducible exact LeO.none _)
      | (with_reducible refine LeO.ite ?_ ?_)
      | (with_reducible refine LeO.bind ?_ (fun _ => ?_))
      | exact ih0 _ _ _ _ _ _
      | exact ih1 _ _ _ _
      | exact ih2 _ _ _ _ _
      | exact wherrylaw03_wakes.mono _
      | exact LeO.none _
      | refine LeO.ite ?_ ?_
      | refine LeO.bind ?_ (fun _ => ?_)
    · intro y0 y1 y2 y3
      unfold wherrylaw03_TreeDeep.j1
      repeat' first
      | (with_reducible exact ih0 _ _ _ _ _ _)
      | (with_reducible exact ih1 _ _ _ _)
      | (with_reducible exact ih2 _ _ _ _ _)
      | (with_reducible exact wherrylaw03_wakes.mono _)
      | (with_reducible exact LeO.refl _)
      | (with_reducible exact LeO.none _)
      | (with_reducible refine LeO.ite ?_ ?_)
      | (with_reducible refine LeO.bind ?_ (fun _ => ?_))
      | exact ih0 _ _ _ _ _ _
      | exact ih1 _ _ _ _
      | exact ih2 _ _ _ _ _
      | exact wherrylaw03_wakes.mono _
      | exact LeO.none _
      | refine LeO.ite ?_ ?_
      | refine LeO.bind ?_ (fun _ => ?_)
    · intro y0 y1 y2 y3 y4
      unfold wherrylaw03_TreeDeep.l1
      repeat' first
      | (with_reducible exact ih0 _ _ _ _ _ _)
      | (with_reducible exact ih1 _ _ _ _)
      | (with_reducible exact ih2 _ _ _ _ _)
      | (with_reducible exact wherrylaw03_wakes.mono _)
      | (with_reducible exact LeO.refl _)
      | (with_reducible exact LeO.none _)
      | (with_reducible refine LeO.ite ?_ ?_)
      | (with_reducible refine LeO.bind ?_ (fun _ => ?_))
      | exact ih0 _ _ _ _ _ _
      | exact ih1 _ _ _ _
      | exact ih2 _ _ _ _ _
      | exact wherrylaw03_wakes.mono _
      | exact LeO.none _
      | refine LeO.ite ?_ ?_
      | refine LeO.bind ?_ (fun _ => ?_)
theorem wherrylaw03_TreeDeep.mono : ∀ a0 a1 k, LeO (wherrylaw03_TreeDeep.f k a0 a1) (wherrylaw03_TreeDeep.f (k + 1) a0 a1) := by
  intro a0 a1 k
  obtain ⟨ih0, ih1, ih2⟩ := wherrylaw03_TreeDeep.mono_l k
  unfold wherrylaw03_TreeDeep.f
  repeat' first
      | (with_reducible exact ih0 _ _ _ _ _ _)
      | (with_reducible exact ih1 _ _ _ _)
      | (with_reducible exact ih2 _ _ _ _ _)
      | (with_reducible exact wherrylaw03_wakes.mono _)
      | (with_reducible exact LeO.refl _)
      | (with_reducible exact LeO.none _)
      | (with_reducible refine LeO.ite ?_ ?_)
      | (with_reducible refine LeO.bind ?_ (fun _ => ?_))
      | exact ih0 _ _ _ _ _ _
      | exact ih1 _ _ _ _
      | exact ih2 _ _ _ _ _
      | exact wherrylaw03_wakes.mono _
      | exact LeO.none _
      | refine LeO.ite ?_ ?_
      | refine LeO.bind ?_ (fun _ => ?_)
set_option maxHeartbeats 8000000 in
set_option maxRecDepth 100000 in
theorem wherrylaw03_TreeDeep.calls (k : Nat) (a0 : Int) (a1 : Int) (r : Bool) (w : World) (h : wherrylaw03_TreeDeep.f k a0 a1 = some r) :
    Calls Try.prog 10 #[.int .i64 a0, .int .i64 a1] w fun e w' => e = .returned (.bool r) ∧ Below w.heap.size w w' := by
  have HB := Aside0.mk (Below.refl w.heap.size w)
  have H : (wherrylaw03_TreeDeep.l0 k (wrap64 (2 + (wrap64 (Int.tmod (IntKind.u64.wrap (a0)) 26)))) (wrap64 (9 + (wrap64 (Int.tmod (IntKind.u64.wrap (a1)) 7)))) 1 1 ([] : List Int) 0) = some r := h
  clear h
  have H' := Aside0.mk H
  clear H
  go_enter Try.func10, Try.ntmps10
  go_wp2
  go_loopg [5, 6, 7, 8] k (fun kq v5 v6 v7 v8 w' => ∃ (x5_1 : Int) (x6_1 : Int) (x7_1 : List Int) (x8_1 : Int), v5 = .int .i64 x5_1 ∧ v6 = .int .i64 x6_1 ∧ v8 = .int .i64 x8_1 ∧ Aside0 (wherrylaw03_TreeDeep.l0 kq (wrap64 (2 + (wrap64 (Int.tmod (IntKind.u64.wrap (a0)) 26)))) (wrap64 (9 + (wrap64 (Int.tmod (IntKind.u64.wrap (a1)) 7)))) x5_1 x6_1 x7_1 x8_1 = some r) ∧ Aside0 (kq ≤ k) ∧ Aside0 (Kd.R (Kd.int .i64) 3 w' w.heap.size (fun _ => True) v7 x7_1) ∧ Aside0 (Below w.heap.size w w'))
  case atStart => exact ⟨(1), (1), (([] : List Int)), (0), (by first | rfl | (simp; done) | (simp [*]; done)), (by first | rfl | (simp; done) | (simp [*]; done)), (by first | rfl | (simp; done) | (simp [*]; done)), H', ⟨Nat.le_refl _⟩, ⟨by first | exact Kd.R_nil _ _ _ _ _ | exact Kd.N_nil _ _ _ _ _ | exact Kd.V_nil _ _ _ _ _ | exact Kd.Q_nil _ _ _ _ _ | exact Kd.S_nil _ _ _ _ _⟩, ⟨by repeat (first | (with_reducible first | exact HB.out | apply below_alloc | apply pw_below_drewN | apply below_drew1) | exact HB.out)⟩⟩
  case round =>
    clear H'
    try clear c1
    try clear p2
    obtain ⟨x5_1, x6_1, x7_1, x8_1, rfl, rfl, rfl, HA, HK1, HO_7, HB⟩ := hrel
    cases gk with
    | zero => exact absurd HA.out (by simp [wherrylaw03_TreeDeep.l0])
    | succ k1 =>
      have H := HA.out
      clear HA
      simp only [wherrylaw03_TreeDeep.l0] at H
      by_cases c3 : x8_1 < (wrap64 (2 + (wrap64 (Int.tmod (IntKind.u64.wrap (a0)) 26))))
      · rw [if_pos c3] at H
        have c3b0 : decide (x8_1 < (wrap64 (2 + (wrap64 (Int.tmod (IntKind.u64.wrap (a0)) 26))))) = true := decide_eq_true c3
        clear c3
        by_cases c4 : x7_1.length < 17592186044416
        · rw [if_pos c4] at H
          have LMc4 := Aside0.mk c4
          clear c4
          obtain ⟨y323, hy323⟩ : ∃ y_ : List Int, y_ = (x7_1 ++ [x5_1]) := ⟨_, rfl⟩
          replace H : (wherrylaw03_TreeDeep.l0 k1 (wrap64 (2 + (wrap64 (Int.tmod (IntKind.u64.wrap (a0)) 26)))) (wrap64 (9 + (wrap64 (Int.tmod (IntKind.u64.wrap (a1)) 7)))) x6_1 (wrap64 (x5_1 + x6_1)) y323 (wrap64 (x8_1 + 1))) = some r := by first | (rw [hy323]; with_reducible exact H) | (have H2_ := (Option.bind_some _ _).symm.trans H; rw [hy323]; with_reducible exact H2_) | (have H2_ := (Option.bind_some _ _).symm.trans H; with_reducible exact H2_) | with_reducible exact H | (rw [hy323]; exact H) | exact H
          have Ny323 := Aside0.mk hy323
          clear hy323
          have H' := Aside0.mk H
          clear H
          go_wp2_with (first | ((with_reducible refine gate_builtin (b := .append) (xs := #[.tmp 28, .tmp 30]) rfl ?_); (try (refine gate_guard (by rfl) ?_; dsimp only)); at_builtin; refine Kd.R_append (Kd.int .i64) (w0 := w) w.heap.size rfl (.tmp 28) (.tmp 30) 22 3 (.int .i64 0) 8 rfl Try.underlying22 info3 rfl (by decide) (by omega) u7 x7_1 x5_1 [.int .i64 x5_1] (fun _ => True) (fun _ => False) rfl rfl ?aP (fun _ hk => hk.elim) ?aF ?aO ?aB ?aS ?aL ?_; (case aP => exact rfl); (case aB => exact (by repeat (first | (with_reducible first | exact HB.out | apply below_alloc | apply pw_below_drewN | apply below_drew1) | exact HB.out))); (case aF => exact (fun _ _ => trivial)); (case aO => exact (by (with_reducible repeat (first | apply Kd.R_alloc | apply Kd.R_drewN | apply Kd.R_drew)); exact HO_7.out)); (case aS => exact (below_size (by repeat (first | (with_reducible first | exact HB.out | apply below_alloc | apply pw_below_drewN | apply below_drew1) | exact HB.out)))); (case aL => have := LMc4.out; omega); intro v324 w5 ho hb hg hat; rw [← Ny323.out] at ho; have n0_ := Aside0.mk (hb); have n1_ := Aside0.mk (ho); clear HB; clear HO_7; have HB := n0_; have HO325 := n1_; clear n0_ n1_; clear ho hb hg hat))
          go_roundg k1
          case measure => have := HK1.out; omega
          case rel => exact ⟨(x6_1), (wrap64 (x5_1 + x6_1)), (y323), (wrap64 (x8_1 + 1)), (by first | rfl | (simp; done) | (simp [*]; done)), (by first | rfl | (simp; done) | (simp [*]; done)), (by first | rfl | (simp; done) | (simp [*]; done)), H', ⟨by have := HK1.out; omega⟩, ⟨by (with_reducible repeat (first | apply Kd.R_alloc | apply Kd.R_drewN | apply Kd.R_drew)); exact HO325.out⟩, ⟨by repeat (first | (with_reducible first | exact HB.out | apply below_alloc | apply pw_below_drewN | apply below_drew1) | exact HB.out)⟩⟩
        · rw [if_neg c4] at H
          exact absurd H (by simp)
      · rw [if_neg c3] at H
        have c3b0 : decide (x8_1 < (wrap64 (2 + (wrap64 (Int.tmod (IntKind.u64.wrap (a0)) 26))))) = false := decide_eq_false c3
        clear c3
        replace H := Option.bind_eq_some_iff.mp H
        obtain ⟨⟨t326, t327⟩, A60, H⟩ := H
        replace H : (if t327 = 0 then (if (t326.length : Int) = (wrap64 (2 + (wrap64 (Int.tmod (IntKind.u64.wrap (a0)) 26)))) then ((canon_Check.f t326).bind fun t330 => (wherrylaw03_TreeDeep.j1 k1 (wrap64 (2 + (wrap64 (Int.tmod (IntKind.u64.wrap (a0)) 26)))) (wrap64 (9 + (wrap64 (Int.tmod (IntKind.u64.wrap (a1)) 7)))) t326 (t330 != 0))) else (wherrylaw03_TreeDeep.j1 k1 (wrap64 (2 + (wrap64 (Int.tmod (IntKind.u64.wrap (a0)) 26)))) (wrap64 (9 + (wrap64 (Int.tmod (IntKind.u64.wrap (a1)) 7)))) t326 true)) else (wherrylaw03_TreeDeep.j1 k1 (wrap64 (2 + (wrap64 (Int.tmod (IntKind.u64.wrap (a0)) 26)))) (wrap64 (9 + (wrap64 (Int.tmod (IntKind.u64.wrap (a1)) 7)))) t326 true)) = some r := H
        have A6 := Aside0.mk A60
        clear A60
        have HC7 := Aside0.mk H
        clear H
        obtain ⟨Ao8, co8, eo8⟩ := Kd.R_slice HO_7.out
        subst eo8
        go_upto_region 10 with (first | ((with_reducible refine gate_callee (f := 12) rfl ?_); refine goesL_ (some 39) rfl rfl Try.func12 (by kernel_rfl) rfl #[.slice Ao8 x7_1.length co8, .int .i64 (wrap64 (9 + (wrap64 (Int.tmod (IntKind.u64.wrap (a1)) 7))))] rfl (by (try simp only [List.map_toArray, List.map_cons, List.map_nil]); first | done | rfl | (simp only [List.length_drop, List.length_take]; rfl)) ?_; (with_reducible refine (tree_Lengths.calls _ _ x7_1 (wrap64 (9 + (wrap64 (Int.tmod (IntKind.u64.wrap (a1)) 7)))) t326 t327 _ ?side1 ?side2 A6.out).mono ?_); (case side1 => repeat (first | exact (Kd.R_reads' HO_7.out).2.2 | (with_reducible refine Kd.C_alloc ?_ _) | (with_reducible refine Kd.C_drewN ?_ _) | (with_reducible refine Kd.C_drew ?_))); (case side2 => exact (Kd.R_reads' HO_7.out).2.1); rintro e w9 ⟨v328, rfl, ho0, hb⟩; refine ⟨_, rfl, ?_⟩; have n0_ := Aside0.mk (Kd.R_elder' (by (with_reducible repeat (first | apply Kd.R_alloc | apply Kd.R_drewN | apply Kd.R_drew)); exact HO_7.out) (Kd.R_base ho0) hb); have n1_ := Aside0.mk (Kd.R_lower (Kd.R_new' ho0 (Kd.R_lt (by (with_reducible repeat (first | apply Kd.R_alloc | apply Kd.R_drewN | apply Kd.R_drew)); exact HO_7.out))) (below_size (by repeat (first | (with_reducible first | exact HB.out | apply below_alloc | apply pw_below_drewN | apply below_drew1) | exact HB.out)))); have n2_ := Aside0.mk (below_step (by repeat (first | (with_reducible first | exact HB.out | apply below_alloc | apply pw_below_drewN | apply below_drew1) | exact HB.out)) hb); clear HO_7; clear HB; have HO_7 := n0_; have HO329 := n1_; have HB := n2_; clear n0_ n1_ n2_; (try clear hb); (try clear hb2); (try clear hk); (try clear hi); (try clear ho0)))
        (try simp only [Act.put, List.setIfInBounds_toArray, List.set_cons_zero, List.set_cons_succ])
        go_cut [54] (fun v54 wc => ∃ (kq : Nat) (x54_6 : Bool), v54 = .bool x54_6 ∧ Aside0 (wherrylaw03_TreeDeep.j1 kq (wrap64 (2 + (wrap64 (Int.tmod (IntKind.u64.wrap (a0)) 26)))) (wrap64 (9 + (wrap64 (Int.tmod (IntKind.u64.wrap (a1)) 7)))) t326 x54_6 = some r) ∧ Aside0 (kq ≤ k1) ∧ Aside0 (Kd.R (Kd.int .i64) 3 wc w.heap.size (fun _ => True) v328 t326) ∧ Aside0 (Below w.heap.size w wc))
        case first =>
          have H := HC7.out
          clear HC7
          by_cases c10 : t327 = 0
          · rw [if_pos c10] at H
            have c10b0 : (t327 == 0) = true := beq_iff_eq.mpr c10
            have c10b1 : (t327 != 0) = false := bne_eq_false_iff_eq.mpr c10
            clear c10
            (first | rw [c10b0] | (simp only [i64_w, i32_w]; rw [c10b0]) | skip)
            by_cases c11 : (t326.length : Int) = (wrap64 (2 + (wrap64 (Int.tmod (IntKind.u64.wrap (a0)) 26))))
            · rw [if_pos c11] at H
              have c11b0 : ((t326.length : Int) == (wrap64 (2 + (wrap64 (Int.tmod (IntKind.u64.wrap (a0)) 26))))) = true := beq_iff_eq.mpr c11
              have c11b1 : ((t326.length : Int) != (wrap64 (2 + (wrap64 (Int.tmod (IntKind.u64.wrap (a0)) 26))))) = false := bne_eq_false_iff_eq.mpr c11
              clear c11
              replace H := Option.bind_eq_some_iff.mp H
              obtain ⟨t330, A120, H⟩ := H
              replace H : (wherrylaw03_TreeDeep.j1 k1 (wrap64 (2 + (wrap64 (Int.tmod (IntKind.u64.wrap (a0)) 26)))) (wrap64 (9 + (wrap64 (Int.tmod (IntKind.u64.wrap (a1)) 7)))) t326 (t330 != 0)) = some r := H
              have A12 := Aside0.mk A120
              clear A120
              have H' := Aside0.mk H
              clear H
              obtain ⟨Ao13, co13, eo13⟩ := Kd.R_slice HO329.out
              subst eo13
              go_wp2_with (first | (go_at_call 18; (with_reducible refine (canon_Check.calls _ _ t326 t330 _ ?side1 ?side2 A12.out).mono ?_); (case side1 => repeat (first | exact (Kd.R_reads' HO329.out).2.2 | (with_reducible refine Kd.C_alloc ?_ _) | (with_reducible refine Kd.C_drewN ?_ _) | (with_reducible refine Kd.C_drew ?_))); (case side2 => exact (Kd.R_reads' HO329.out).2.1); rintro e w14 ⟨rfl, hb⟩; have n0_ := Aside0.mk (Kd.R_below (by (with_reducible repeat (first | apply Kd.R_alloc | apply Kd.R_drewN | apply Kd.R_drew)); exact HO_7.out) hb); have n1_ := Aside0.mk (Kd.R_below (by (with_reducible repeat (first | apply Kd.R_alloc | apply Kd.R_drewN | apply Kd.R_drew)); exact HO329.out) hb); have n2_ := Aside0.mk (below_step (by repeat (first | (with_reducible first | exact HB.out | apply below_alloc | apply pw_below_drewN | apply below_drew1) | exact HB.out)) hb); clear HO_7; clear HO329; clear HB; have HO_7 := n0_; have HO329 := n1_; have HB := n2_; clear n0_ n1_ n2_; (try clear hb); (try clear hb2); (try clear hk); (try clear hi)))
              go_meet
              case rel => exact ⟨_, ((t330 != 0)), (by first | rfl | (simp; done) | (simp [*]; done)), H', ⟨by have := HK1.out; first | omega | exact Nat.le_refl _⟩, ⟨by (with_reducible repeat (first | apply Kd.R_alloc | apply Kd.R_drewN | apply Kd.R_drew)); exact Kd.R_mono HO329.out (fun _ hk => trivial)⟩, ⟨by repeat (first | (with_reducible first | exact HB.out | apply below_alloc | apply pw_below_drewN | apply below_drew1) | exact HB.out)⟩⟩
            · rw [if_neg c11] at H
              have c11b0 : ((t326.length : Int) == (wrap64 (2 + (wrap64 (Int.tmod (IntKind.u64.wrap (a0)) 26))))) = false := beq_eq_false_iff_ne.mpr c11
              have c11b1 : ((t326.length : Int) != (wrap64 (2 + (wrap64 (Int.tmod (IntKind.u64.wrap (a0)) 26))))) = true := bne_iff_ne.mpr c11
              have H' := Aside0.mk H
              clear H
              obtain ⟨Ao15, co15, eo15⟩ := Kd.R_slice HO329.out
              subst eo15
              go_wp2
              go_meet
              case rel => exact ⟨_, (true), (by first | rfl | (simp; done) | (simp [*]; done)), H', ⟨by have := HK1.out; first | omega | exact Nat.le_refl _⟩, ⟨by (with_reducible repeat (first | apply Kd.R_alloc | apply Kd.R_drewN | apply Kd.R_drew)); exact Kd.R_mono HO329.out (fun _ hk => trivial)⟩, ⟨by repeat (first | (with_reducible first | exact HB.out | apply below_alloc | apply pw_below_drewN | apply below_drew1) | exact HB.out)⟩⟩
          · rw [if_neg c10] at H
            have c10b0 : (t327 == 0) = false := beq_eq_false_iff_ne.mpr c10
            have c10b1 : (t327 != 0) = true := bne_iff_ne.mpr c10
            (first | rw [c10b0] | (simp only [i64_w, i32_w]; rw [c10b0]) | skip)
            have H' := Aside0.mk H
            clear H
            go_wp2
            go_meet
            case rel => exact ⟨_, (true), (by first | rfl | (simp; done) | (simp [*]; done)), H', ⟨by have := HK1.out; first | omega | exact Nat.le_refl _⟩, ⟨by (with_reducible repeat (first | apply Kd.R_alloc | apply Kd.R_drewN | apply Kd.R_drew)); exact Kd.R_mono HO329.out (fun _ hk => trivial)⟩, ⟨by repeat (first | (with_reducible first | exact HB.out | apply below_alloc | apply pw_below_drewN | apply below_drew1) | exact HB.out)⟩⟩
        case rest =>
          clear HC7
          try clear c1
          try clear p2
          try clear c3
          try clear c3b0
          try clear c4
          try clear p6
          try clear c10
          try clear c10b0
          try clear c10b1
          try clear c11
          try clear c11b0
          try clear c11b1
          try clear c12
          try clear p2
          obtain ⟨kq, x54_6, rfl, HA, HJ6, HO_9, HB⟩ := hcut
          cases kq with
          | zero => exact absurd HA.out (by simp [wherrylaw03_TreeDeep.j1])
          | succ kj6 =>
            have H := HA.out
            clear HA
            simp only [wherrylaw03_TreeDeep.j1] at H
            by_cases c16 : x54_6 = true
            · subst c16
              have H1 : (some false) = some r := by rw [if_pos rfl] at H; exact H
              clear H
              have H := H1
              clear H1
              obtain rfl := Option.some.inj H
              go_wp2
              go_ret
              exact ⟨by first | rfl | (simp [errW_none, errW_some] <;> rfl) | (simp [*, errW_none, errW_some] <;> rfl), by repeat (first | (with_reducible first | exact HB.out | apply below_alloc | apply pw_below_drewN | apply below_drew1) | exact HB.out)⟩
            · replace c16 := Bool.eq_false_iff.mpr c16
              subst c16
              have H1 : (wherrylaw03_TreeDeep.l1 kj6 (wrap64 (2 + (wrap64 (Int.tmod (IntKind.u64.wrap (a0)) 26)))) (wrap64 (9 + (wrap64 (Int.tmod (IntKind.u64.wrap (a1)) 7)))) t326 0 0) = some r := by rw [if_neg (show ¬ (false = true) by decide)] at H; exact H
              clear H
              have H := H1
              clear H1
              have H' := Aside0.mk H
              clear H
              go_wp2
              go_loopg [11, 12] kj6 (fun kq v11 v12 w' => ∃ (x11_3 : Int) (x12_3 : Int), v11 = .int .i64 x11_3 ∧ v12 = .int .i64 x12_3 ∧ Aside0 (wherrylaw03_TreeDeep.l1 kq (wrap64 (2 + (wrap64 (Int.tmod (IntKind.u64.wrap (a0)) 26)))) (wrap64 (9 + (wrap64 (Int.tmod (IntKind.u64.wrap (a1)) 7)))) t326 x11_3 x12_3 = some r) ∧ Aside0 (kq ≤ kj6) ∧ Aside0 (Kd.R (Kd.int .i64) 3 w' w.heap.size (fun _ => True) v328 t326) ∧ Aside0 (Below w.heap.size w w'))
              case atStart => exact ⟨(0), (0), (by first | rfl | (simp; done) | (simp [*]; done)), (by first | rfl | (simp; done) | (simp [*]; done)), H', ⟨Nat.le_refl _⟩, ⟨by (with_reducible repeat (first | apply Kd.R_alloc | apply Kd.R_drewN | apply Kd.R_drew)); exact HO_9.out⟩, ⟨by repeat (first | (with_reducible first | exact HB.out | apply below_alloc | apply pw_below_drewN | apply below_drew1) | exact HB.out)⟩⟩
              case round =>
                clear H'
                try clear c1
                try clear p2
                try clear c3
                try clear c3b0
                try clear c4
                try clear p6
                try clear c10
                try clear c10b0
                try clear c10b1
                try clear c11
                try clear c11b0
                try clear c11b1
                try clear c12
                try clear c16
                try clear p2
                try clear p6
                obtain ⟨x11_3, x12_3, rfl, rfl, HA, HK3, HO_9, HB⟩ := hrel
                cases gk with
                | zero => exact absurd HA.out (by simp [wherrylaw03_TreeDeep.l1])
                | succ k3 =>
                  have H := HA.out
                  clear HA
                  simp only [wherrylaw03_TreeDeep.l1] at H
                  by_cases c17 : x12_3 < (wrap64 (2 + (wrap64 (Int.tmod (IntKind.u64.wrap (a0)) 26))))
                  · rw [if_pos c17] at H
                    have c17b0 : decide (x12_3 < (wrap64 (2 + (wrap64 (Int.tmod (IntKind.u64.wrap (a0)) 26))))) = true := decide_eq_true c17
                    clear c17
                    by_cases c18 : 0 ≤ x12_3
                    · rw [if_pos c18] at H
                      have c18b0 : decide (0 ≤ x12_3) = true := decide_eq_true c18
                      clear c18
                      by_cases c19 : x12_3 < (t326.length : Int)
                      · rw [if_pos c19] at H
                        have c19b0 : decide (x12_3 < (t326.length : Int)) = true := decide_eq_true c19
                        clear c19
                        obtain ⟨ji20, hji20⟩ : ∃ j_ : Int, (mx x11_3 (rd t326 x12_3)) = j_ := ⟨_, rfl⟩
                        replace H : (wherrylaw03_TreeDeep.l1 k3 (wrap64 (2 + (wrap64 (Int.tmod (IntKind.u64.wrap (a0)) 26)))) (wrap64 (9 + (wrap64 (Int.tmod (IntKind.u64.wrap (a1)) 7)))) t326 ji20 (wrap64 (x12_3 + 1))) = some r := by first | (rw [hji20] at H; exact H) | (simp only [hji20] at H ⊢; exact H)
                        have hji20_ : (if x11_3 < (rd t326 x12_3) then (rd t326 x12_3) else x11_3) = ji20 := hji20
                        have H' := Aside0.mk H
                        clear H
                        obtain ⟨Ao21, co21, eo21⟩ := Kd.R_slice HO_9.out
                        subst eo21
                        have p331 : 0 ≤ (x12_3 : Int) := of_decide_eq_true (by first | (with_reducible assumption) | assumption)
                        have q331 : x12_3 < (t326.length : Int) := of_decide_eq_true (by first | (with_reducible assumption) | assumption)
                        obtain ⟨ad331, e331, hx331_0⟩ := Kd.at_int (Kd.R_reads' HO_9.out).2.2 x12_3 p331 q331
                        cases e331
                        replace p331 := eq_true p331
                        replace q331 := eq_true q331
                        go_wp2
                        go_roundg k3
                        case measure => have := HK1.out; have := HJ6.out; have := HK3.out; omega
                        case rel => exact ⟨(ji20), (wrap64 (x12_3 + 1)), (by first | rfl | (simp; done) | (simp only [← hji20] <;> (first | rfl | simp)) | (simp [*]; done)), (by first | rfl | (simp; done) | (simp [*]; done)), H', ⟨by have := HK1.out; have := HJ6.out; have := HK3.out; omega⟩, ⟨by (with_reducible repeat (first | apply Kd.R_alloc | apply Kd.R_drewN | apply Kd.R_drew)); exact HO_9.out⟩, ⟨by repeat (first | (with_reducible first | exact HB.out | apply below_alloc | apply pw_below_drewN | apply below_drew1) | exact HB.out)⟩⟩
                      · rw [if_neg c19] at H
                        exact absurd H (by simp)
                    · rw [if_neg c18] at H
                      exact absurd H (by simp)
                  · rw [if_neg c17] at H
                    have c17b0 : decide (x12_3 < (wrap64 (2 + (wrap64 (Int.tmod (IntKind.u64.wrap (a0)) 26))))) = false := decide_eq_false c17
                    clear c17
                    by_cases c22 : (wrap64 ((wrap64 (2 + (wrap64 (Int.tmod (IntKind.u64.wrap (a0)) 26)))) - 1)) > (wrap64 (9 + (wrap64 (Int.tmod (IntKind.u64.wrap (a1)) 7))))
                    · rw [if_pos c22] at H
                      have c22b0 : decide ((wrap64 (9 + (wrap64 (Int.tmod (IntKind.u64.wrap (a1)) 7)))) < (wrap64 ((wrap64 (2 + (wrap64 (Int.tmod (IntKind.u64.wrap (a0)) 26)))) - 1))) = true := decide_eq_true c22
                      clear c22
                      by_cases c23 : x11_3 ≤ (wrap64 (9 + (wrap64 (Int.tmod (IntKind.u64.wrap (a1)) 7))))
                      · rw [if_pos c23] at H
                        have c23b0 : decide (x11_3 ≤ (wrap64 (9 + (wrap64 (Int.tmod (IntKind.u64.wrap (a1)) 7))))) = true := decide_eq_true c23
                        clear c23
                        replace H := Option.bind_eq_some_iff.mp H
                        obtain ⟨t332, A240, H⟩ := H
                        replace H : (some t332) = some r := H
                        have A24 := Aside0.mk A240
                        clear A240
                        obtain rfl := Option.some.inj H
                        go_wp2_with (first | (go_at_call 17; (with_reducible refine (wherrylaw03_wakes.calls k3  t332 _ A24.out).mono ?_); rintro e w25 ⟨rfl, hb⟩; have n0_ := Aside0.mk (Kd.R_below (by (with_reducible repeat (first | apply Kd.R_alloc | apply Kd.R_drewN | apply Kd.R_drew)); exact HO_9.out) hb); have n1_ := Aside0.mk (below_step (by repeat (first | (with_reducible first | exact HB.out | apply below_alloc | apply pw_below_drewN | apply below_drew1) | exact HB.out)) hb); clear HO_9; clear HB; have HO_9 := n0_; have HB := n1_; clear n0_ n1_; (try clear hb); (try clear hb2); (try clear hk); (try clear hi)))
                        go_ret
                        exact ⟨by first | rfl | (simp [errW_none, errW_some] <;> rfl) | (simp [*, errW_none, errW_some] <;> rfl), by repeat (first | (with_reducible first | exact HB.out | apply below_alloc | apply pw_below_drewN | apply below_drew1) | exact HB.out)⟩
                      · rw [if_neg c23] at H
                        have c23b0 : decide (x11_3 ≤ (wrap64 (9 + (wrap64 (Int.tmod (IntKind.u64.wrap (a1)) 7))))) = false := decide_eq_false c23
                        clear c23
                        obtain rfl := Option.some.inj H
                        go_wp2
                        go_ret
                        exact ⟨by first | rfl | (simp [errW_none, errW_some] <;> rfl) | (simp [*, errW_none, errW_some] <;> rfl), by repeat (first | (with_reducible first | exact HB.out | apply below_alloc | apply pw_below_drewN | apply below_drew1) | exact HB.out)⟩
                    · rw [if_neg c22] at H
                      have c22b0 : decide ((wrap64 (9 + (wrap64 (Int.tmod (IntKind.u64.wrap (a1)) 7)))) < (wrap64 ((wrap64 (2 + (wrap64 (Int.tmod (IntKind.u64.wrap (a0)) 26)))) - 1))) = false := decide_eq_false c22
                      clear c22
                      by_cases c26 : x11_3 = (wrap64 ((wrap64 (2 + (wrap64 (Int.tmod (IntKind.u64.wrap (a0)) 26)))) - 1))
                      · rw [if_pos c26] at H
                        have c26b0 : (x11_3 == (wrap64 ((wrap64 (2 + (wrap64 (Int.tmod (IntKind.u64.wrap (a0)) 26)))) - 1))) = true := beq_iff_eq.mpr c26
                        have c26b1 : (x11_3 != (wrap64 ((wrap64 (2 + (wrap64 (Int.tmod (IntKind.u64.wrap (a0)) 26)))) - 1))) = false := bne_eq_false_iff_eq.mpr c26
                        clear c26
                        by_cases c27 : x11_3 ≤ (wrap64 (9 + (wrap64 (Int.tmod (IntKind.u64.wrap (a1)) 7))))
                        · rw [if_pos c27] at H
                          have c27b0 : decide (x11_3 ≤ (wrap64 (9 + (wrap64 (Int.tmod (IntKind.u64.wrap (a1)) 7))))) = true := decide_eq_true c27
                          clear c27
                          replace H := Option.bind_eq_some_iff.mp H
                          obtain ⟨t333, A280, H⟩ := H
                          replace H : (some t333) = some r := H
                          have A28 := Aside0.mk A280
                          clear A280
                          obtain rfl := Option.some.inj H
                          go_wp2_with (first | (go_at_call 17; (with_reducible refine (wherrylaw03_wakes.calls k3  t333 _ A28.out).mono ?_); rintro e w29 ⟨rfl, hb⟩; have n0_ := Aside0.mk (Kd.R_below (by (with_reducible repeat (first | apply Kd.R_alloc | apply Kd.R_drewN | apply Kd.R_drew)); exact HO_9.out) hb); have n1_ := Aside0.mk (below_step (by repeat (first | (with_reducible first | exact HB.out | apply below_alloc | apply pw_below_drewN | apply below_drew1) | exact HB.out)) hb); clear HO_9; clear HB; have HO_9 := n0_; have HB := n1_; clear n0_ n1_; (try clear hb); (try clear hb2); (try clear hk); (try clear hi)))
                          go_ret
                          exact ⟨by first | rfl | (simp [errW_none, errW_some] <;> rfl) | (simp [*, errW_none, errW_some] <;> rfl), by repeat (first | (with_reducible first | exact HB.out | apply below_alloc | apply pw_below_drewN | apply below_drew1) | exact HB.out)⟩
                        · rw [if_neg c27] at H
                          have c27b0 : decide (x11_3 ≤ (wrap64 (9 + (wrap64 (Int.tmod (IntKind.u64.wrap (a1)) 7))))) = false := decide_eq_false c27
                          clear c27
                          obtain rfl := Option.some.inj H
                          go_wp2
                          go_ret
                          exact ⟨by first | rfl | (simp [errW_none, errW_some] <;> rfl) | (simp [*, errW_none, errW_some] <;> rfl), by repeat (first | (with_reducible first | exact HB.out | apply below_alloc | apply pw_below_drewN | apply below_drew1) | exact HB.out)⟩
                      · rw [if_neg c26] at H
                        have c26b0 : (x11_3 == (wrap64 ((wrap64 (2 + (wrap64 (Int.tmod (IntKind.u64.wrap (a0)) 26)))) - 1))) = false := beq_eq_false_iff_ne.mpr c26
                        have c26b1 : (x11_3 != (wrap64 ((wrap64 (2 + (wrap64 (Int.tmod (IntKind.u64.wrap (a0)) 26)))) - 1))) = true := bne_iff_ne.mpr c26
                        obtain rfl := Option.some.inj H
                        go_wp2
                        go_ret
                        exact ⟨by first | rfl | (simp [errW_none, errW_some] <;> rfl) | (simp [*, errW_none, errW_some] <;> rfl), by repeat (first | (with_reducible first | exact HB.out | apply below_alloc | apply pw_below_drewN | apply below_drew1) | exact HB.out)⟩

/-- THE ONE PURE STATEMENT of wherrylaw03_TreeDeep: yours. -/
def wherrylaw03_TreeDeep.Pure : Prop := ∀ (a0 : Int) (a1 : Int), (Lit.int .i64 a0).wf = true → (Lit.int .i64 a1).wf = true → ∃ k, wherrylaw03_TreeDeep.f k a0 a1 = some true
theorem wherrylaw03_TreeDeep.walk (P : wherrylaw03_TreeDeep.Pure) (a0 : Int) (a1 : Int) (w : World) (w0 : (Lit.int .i64 a0).wf = true) (w1 : (Lit.int .i64 a1).wf = true) :
    Calls Try.prog 10 #[.int .i64 a0, .int .i64 a1] w fun e w' => e = .returned (.bool true) ∧ Below w.heap.size w w' := by
  obtain ⟨k, h⟩ := P a0 a1 w0 w1
  refine (wherrylaw03_TreeDeep.calls k a0 a1 true w h).mono ?_
  rintro e w' ⟨rfl, hd⟩
  exact ⟨rfl, hd⟩

-- PART
end Go.Proofs.Ytaoeghdpmmeaiaa.P
