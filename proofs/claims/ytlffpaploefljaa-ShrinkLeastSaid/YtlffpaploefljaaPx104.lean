-- Written by a program of this session out of the translation. Lean checks it.
import Derived.Test.YtlffpaploefljaaPx0
import Derived.Test.YtlffpaploefljaaPx45
import Derived.Test.YtlffpaploefljaaPx51
import Derived.Test.YtlffpaploefljaaPx75
import Derived.Test.YtlffpaploefljaaPx78
namespace Go.Proofs.Ytlffpaploefljaa.P
open Go.RowKit Go.Proofs.YtlffpaploefljaaW.PrintWords Go.Proofs.YtlffpaploefljaaW.PrintLast Go.Proofs.YtlffpaploefljaaW.PrintMore
attribute [local go_sem] max2_int min2_int max_two min_two max_three min_three max_four min_four   -- for this text's walks alone
set_option linter.unusedVariables false
set_option linter.unusedSimpArgs false

-- PART
/-! ### wherrylaw06_ShrinkLeast: function 9 -/
mutual
def wherrylaw06_ShrinkLeast.j0 : Nat → Int → Int → Bool → Option (Bool)
  | 0, _, _, _ => none
  | k + 1, x1, x2, x84 => if x84 = true then (some false) else (wherrylaw06_ShrinkLeast.l0 k x1 (wrap64 (Int.tmod (IntKind.u64.wrap (x2)) 1200)) ([] : List Int) 0)
def wherrylaw06_ShrinkLeast.l0 : Nat → Int → Int → List Int → Int → Option (Bool)
  | 0, _, _, _, _ => none
  | k + 1, x1, x2, x15, x16 => if x16 < x2 then (if x15.length < 140737488355328 then (wherrylaw06_ShrinkLeast.l0 k x1 x2 (x15 ++ [x1]) (wrap64 (x16 + 1))) else (none)) else ((shrink_Shrink.f x15).bind fun bt843 => (if bt843.2 = 0 then (if (bt843.1.length : Int) ≤ (wrap64 (8 + (wrap64 (2 * (wrap64 ((wrap64 (Int.tdiv x2 258)) + 1)))))) then ((wherrylaw06_wakes.f).bind fun t847 => (some t847)) else (some false)) else (some false)))
end
def wherrylaw06_ShrinkLeast.f (k : Nat) (l0 : List Int) (a1 : Int) (a2 : Int) : Option (Bool) := if (l0.length : Int) > 1200 then (some true) else ((shrink_Shrink.f l0).bind fun bt824 => ((shrink_Stored.f l0).bind fun bt828 => ((shrink_Fixed.f l0).bind fun bt832 => ((shrink_Dynamic.f l0).bind fun bt836 => (if bt824.2 = 0 then (if bt828.2 = 0 then (if bt832.2 = 0 then (if bt836.2 = 0 then (if (bt828.1.length : Int) = (wrap64 ((l0.length : Int) + 5)) then (if (bt824.1.length : Int) > (bt828.1.length : Int) then (wherrylaw06_ShrinkLeast.j0 k a1 a2 true) else (if (bt824.1.length : Int) > (bt832.1.length : Int) then (wherrylaw06_ShrinkLeast.j0 k a1 a2 true) else (wherrylaw06_ShrinkLeast.j0 k a1 a2 (decide ((bt824.1.length : Int) > (bt836.1.length : Int)))))) else (wherrylaw06_ShrinkLeast.j0 k a1 a2 true)) else (wherrylaw06_ShrinkLeast.j0 k a1 a2 true)) else (wherrylaw06_ShrinkLeast.j0 k a1 a2 true)) else (wherrylaw06_ShrinkLeast.j0 k a1 a2 true)) else (wherrylaw06_ShrinkLeast.j0 k a1 a2 true))))))
theorem wherrylaw06_ShrinkLeast.mono_l : ∀ k, (∀ y0 y1 y2, LeO (wherrylaw06_ShrinkLeast.j0 k y0 y1 y2) (wherrylaw06_ShrinkLeast.j0 (k + 1) y0 y1 y2)) ∧ (∀ y0 y1 y2 y3, LeO (wherrylaw06_ShrinkLeast.l0 k y0 y1 y2 y3) (wherrylaw06_ShrinkLeast.l0 (k + 1) y0 y1 y2 y3))
  | 0 => ⟨fun _ _ _ r h => by simp [wherrylaw06_ShrinkLeast.j0] at h, fun _ _ _ _ r h => by simp [wherrylaw06_ShrinkLeast.l0] at h⟩
  | k + 1 => by
    obtain ⟨ih0, ih1⟩ := wherrylaw06_ShrinkLeast.mono_l k
    refine ⟨?_, ?_⟩
    · intro y0 y1 y2
      unfold wherrylaw06_ShrinkLeast.j0
      repeat' first
      | (with_reducible exact ih0 _ _ _)
      | (with_reducible exact ih1 _ _ _ _)
      | (with_reducible exact LeO.refl _)
      | (with_reducible exact LeO.none _)
      | (with_reducible refine LeO.ite ?_ ?_)
      | (with_reducible refine LeO.bind ?_ (fun _ => ?_))
      | exact ih0 _ _ _
      | exact ih1 _ _ _ _
      | exact LeO.none _
      | refine LeO.ite ?_ ?_
      | refine LeO.bind ?_ (fun _ => ?_)
    · intro y0 y1 y2 y3
      unfold wherrylaw06_ShrinkLeast.l0
      repeat' first
      | (with_reducible exact ih0 _ _ _)
      | (with_reducible exact ih1 _ _ _ _)
      | (with_reducible exact LeO.refl _)
      | (with_reducible exact LeO.none _)
      | (with_reducible refine LeO.ite ?_ ?_)
      | (with_reducible refine LeO.bind ?_ (fun _ => ?_))
      | exact ih0 _ _ _
      | exact ih1 _ _ _ _
      | exact LeO.none _
      | refine LeO.ite ?_ ?_
      | refine LeO.bind ?_ (fun _ => ?_)
theorem wherrylaw06_ShrinkLeast.mono : ∀ a0 a1 a2 k, LeO (wherrylaw06_ShrinkLeast.f k a0 a1 a2) (wherrylaw06_ShrinkLeast.f (k + 1) a0 a1 a2) := by
  intro a0 a1 a2 k
  obtain ⟨ih0, ih1⟩ := wherrylaw06_ShrinkLeast.mono_l k
  unfold wherrylaw06_ShrinkLeast.f
  repeat' first
      | (with_reducible exact ih0 _ _ _)
      | (with_reducible exact ih1 _ _ _ _)
      | (with_reducible exact LeO.refl _)
      | (with_reducible exact LeO.none _)
      | (with_reducible refine LeO.ite ?_ ?_)
      | (with_reducible refine LeO.bind ?_ (fun _ => ?_))
      | exact ih0 _ _ _
      | exact ih1 _ _ _ _
      | exact LeO.none _
      | refine LeO.ite ?_ ?_
      | refine LeO.bind ?_ (fun _ => ?_)
set_option maxHeartbeats 8000000 in
set_option maxRecDepth 100000 in
theorem wherrylaw06_ShrinkLeast.calls (k : Nat) (A0 : Option Addr) (c0 : Nat) (l0 : List Int) (a1 : Int) (a2 : Int) (r : Bool) (w : World) (hr0 : Kd.C (Kd.int .u8) w A0 l0.length l0) (hc0 : l0.length ≤ c0) (h : wherrylaw06_ShrinkLeast.f k l0 a1 a2 = some r) :
    Calls Try.prog 9 #[.slice A0 l0.length c0, .int .u8 a1, .int .i64 a2] w fun e w' => e = .returned (.bool r) ∧ Below w.heap.size w w' := by
  have HR0 := Aside0.mk hr0
  have HC0 := Aside0.mk hc0
  clear hr0 hc0
  have HB := Aside0.mk (Below.refl w.heap.size w)
  have H : (if (l0.length : Int) > 1200 then (some true) else ((shrink_Shrink.f l0).bind fun bt824 => ((shrink_Stored.f l0).bind fun bt828 => ((shrink_Fixed.f l0).bind fun bt832 => ((shrink_Dynamic.f l0).bind fun bt836 => (if bt824.2 = 0 then (if bt828.2 = 0 then (if bt832.2 = 0 then (if bt836.2 = 0 then (if (bt828.1.length : Int) = (wrap64 ((l0.length : Int) + 5)) then (if (bt824.1.length : Int) > (bt828.1.length : Int) then (wherrylaw06_ShrinkLeast.j0 k a1 a2 true) else (if (bt824.1.length : Int) > (bt832.1.length : Int) then (wherrylaw06_ShrinkLeast.j0 k a1 a2 true) else (wherrylaw06_ShrinkLeast.j0 k a1 a2 (decide ((bt824.1.length : Int) > (bt836.1.length : Int)))))) else (wherrylaw06_ShrinkLeast.j0 k a1 a2 true)) else (wherrylaw06_ShrinkLeast.j0 k a1 a2 true)) else (wherrylaw06_ShrinkLeast.j0 k a1 a2 true)) else (wherrylaw06_ShrinkLeast.j0 k a1 a2 true)) else (wherrylaw06_ShrinkLeast.j0 k a1 a2 true))))))) = some r := h
  clear h
  by_cases c4 : (l0.length : Int) > 1200
  · rw [if_pos c4] at H
    have c4b0 : decide (1200 < (l0.length : Int)) = true := decide_eq_true c4
    have c4b1 : decide (1200 < l0.length) = true := decide_eq_true (by omega)
    clear c4
    obtain rfl := Option.some.inj H
    go_enter Try.func9, Try.ntmps9
    go_wp2
    go_ret
    exact ⟨by first | rfl | (simp [errW_none, errW_some] <;> rfl) | (simp [*, errW_none, errW_some] <;> rfl), by repeat (first | (with_reducible first | exact HB.out | apply below_alloc | apply pw_below_drewN | apply below_drew1) | exact HB.out)⟩
  · rw [if_neg c4] at H
    have c4b0 : decide (1200 < (l0.length : Int)) = false := decide_eq_false c4
    have c4b1 : decide (1200 < l0.length) = false := decide_eq_false (by omega)
    clear c4
    replace H := Option.bind_eq_some_iff.mp H
    obtain ⟨⟨t824, t825⟩, A50, H⟩ := H
    replace H : ((shrink_Stored.f l0).bind fun bt828 => ((shrink_Fixed.f l0).bind fun bt832 => ((shrink_Dynamic.f l0).bind fun bt836 => (if t825 = 0 then (if bt828.2 = 0 then (if bt832.2 = 0 then (if bt836.2 = 0 then (if (bt828.1.length : Int) = (wrap64 ((l0.length : Int) + 5)) then (if (t824.length : Int) > (bt828.1.length : Int) then (wherrylaw06_ShrinkLeast.j0 k a1 a2 true) else (if (t824.length : Int) > (bt832.1.length : Int) then (wherrylaw06_ShrinkLeast.j0 k a1 a2 true) else (wherrylaw06_ShrinkLeast.j0 k a1 a2 (decide ((t824.length : Int) > (bt836.1.length : Int)))))) else (wherrylaw06_ShrinkLeast.j0 k a1 a2 true)) else (wherrylaw06_ShrinkLeast.j0 k a1 a2 true)) else (wherrylaw06_ShrinkLeast.j0 k a1 a2 true)) else (wherrylaw06_ShrinkLeast.j0 k a1 a2 true)) else (wherrylaw06_ShrinkLeast.j0 k a1 a2 true))))) = some r := H
    have A5 := Aside0.mk A50
    clear A50
    replace H := Option.bind_eq_some_iff.mp H
    obtain ⟨⟨t828, t829⟩, A60, H⟩ := H
    replace H : ((shrink_Fixed.f l0).bind fun bt832 => ((shrink_Dynamic.f l0).bind fun bt836 => (if t825 = 0 then (if t829 = 0 then (if bt832.2 = 0 then (if bt836.2 = 0 then (if (t828.length : Int) = (wrap64 ((l0.length : Int) + 5)) then (if (t824.length : Int) > (t828.length : Int) then (wherrylaw06_ShrinkLeast.j0 k a1 a2 true) else (if (t824.length : Int) > (bt832.1.length : Int) then (wherrylaw06_ShrinkLeast.j0 k a1 a2 true) else (wherrylaw06_ShrinkLeast.j0 k a1 a2 (decide ((t824.length : Int) > (bt836.1.length : Int)))))) else (wherrylaw06_ShrinkLeast.j0 k a1 a2 true)) else (wherrylaw06_ShrinkLeast.j0 k a1 a2 true)) else (wherrylaw06_ShrinkLeast.j0 k a1 a2 true)) else (wherrylaw06_ShrinkLeast.j0 k a1 a2 true)) else (wherrylaw06_ShrinkLeast.j0 k a1 a2 true)))) = some r := H
    have A6 := Aside0.mk A60
    clear A60
    replace H := Option.bind_eq_some_iff.mp H
    obtain ⟨⟨t832, t833⟩, A70, H⟩ := H
    replace H : ((shrink_Dynamic.f l0).bind fun bt836 => (if t825 = 0 then (if t829 = 0 then (if t833 = 0 then (if bt836.2 = 0 then (if (t828.length : Int) = (wrap64 ((l0.length : Int) + 5)) then (if (t824.length : Int) > (t828.length : Int) then (wherrylaw06_ShrinkLeast.j0 k a1 a2 true) else (if (t824.length : Int) > (t832.length : Int) then (wherrylaw06_ShrinkLeast.j0 k a1 a2 true) else (wherrylaw06_ShrinkLeast.j0 k a1 a2 (decide ((t824.length : Int) > (bt836.1.length : Int)))))) else (wherrylaw06_ShrinkLeast.j0 k a1 a2 true)) else (wherrylaw06_ShrinkLeast.j0 k a1 a2 true)) else (wherrylaw06_ShrinkLeast.j0 k a1 a2 true)) else (wherrylaw06_ShrinkLeast.j0 k a1 a2 true)) else (wherrylaw06_ShrinkLeast.j0 k a1 a2 true))) = some r := H
    have A7 := Aside0.mk A70
    clear A70
    replace H := Option.bind_eq_some_iff.mp H
    obtain ⟨⟨t836, t837⟩, A80, H⟩ := H
    replace H : (if t825 = 0 then (if t829 = 0 then (if t833 = 0 then (if t837 = 0 then (if (t828.length : Int) = (wrap64 ((l0.length : Int) + 5)) then (if (t824.length : Int) > (t828.length : Int) then (wherrylaw06_ShrinkLeast.j0 k a1 a2 true) else (if (t824.length : Int) > (t832.length : Int) then (wherrylaw06_ShrinkLeast.j0 k a1 a2 true) else (wherrylaw06_ShrinkLeast.j0 k a1 a2 (decide ((t824.length : Int) > (t836.length : Int)))))) else (wherrylaw06_ShrinkLeast.j0 k a1 a2 true)) else (wherrylaw06_ShrinkLeast.j0 k a1 a2 true)) else (wherrylaw06_ShrinkLeast.j0 k a1 a2 true)) else (wherrylaw06_ShrinkLeast.j0 k a1 a2 true)) else (wherrylaw06_ShrinkLeast.j0 k a1 a2 true)) = some r := H
    have A8 := Aside0.mk A80
    clear A80
    have HC9 := Aside0.mk H
    clear H
    go_enter Try.func9, Try.ntmps9
    go_upto_region 7 with (first | ((with_reducible refine gate_callee (f := 12) rfl ?_); refine goesL_ (some 24) rfl rfl Try.func12 (by kernel_rfl) rfl #[.slice A0 l0.length c0] rfl (by (try simp only [List.map_toArray, List.map_cons, List.map_nil]); first | done | rfl | (simp only [List.length_drop, List.length_take]; rfl)) ?_; (with_reducible refine (shrink_Shrink.calls _ _ l0 t824 t825 _ ?side1 ?side2 A5.out).mono ?_); (case side1 => repeat (first | exact HR0.out | (with_reducible refine Kd.C_alloc ?_ _) | (with_reducible refine Kd.C_drewN ?_ _) | (with_reducible refine Kd.C_drew ?_))); (case side2 => exact HC0.out); rintro e w10 ⟨v826, rfl, ho0, hb⟩; refine ⟨_, rfl, ?_⟩; have n0_ := Aside0.mk (Kd.R_lower ho0 (below_size (by repeat (first | (with_reducible first | exact HB.out | apply below_alloc | apply pw_below_drewN | apply below_drew1) | exact HB.out)))); have n1_ := Aside0.mk (below_step (by repeat (first | (with_reducible first | exact HB.out | apply below_alloc | apply pw_below_drewN | apply below_drew1) | exact HB.out)) hb); clear HB; have HO827 := n0_; have HB := n1_; clear n0_ n1_; (try clear hb); (try clear hb2); (try clear hk); (try clear hi); (try clear ho0)) | ((with_reducible refine gate_callee (f := 13) rfl ?_); refine goesL_ (some 29) rfl rfl Try.func13 (by kernel_rfl) rfl #[.slice A0 l0.length c0] rfl (by (try simp only [List.map_toArray, List.map_cons, List.map_nil]); first | done | rfl | (simp only [List.length_drop, List.length_take]; rfl)) ?_; (with_reducible refine (shrink_Stored.calls _ _ l0 t828 t829 _ ?side1 ?side2 A6.out).mono ?_); (case side1 => repeat (first | exact (Kd.C_below HR0.out HB.out) | (with_reducible refine Kd.C_alloc ?_ _) | (with_reducible refine Kd.C_drewN ?_ _) | (with_reducible refine Kd.C_drew ?_))); (case side2 => exact HC0.out); rintro e w11 ⟨v830, rfl, ho0, hb⟩; refine ⟨_, rfl, ?_⟩; have n0_ := Aside0.mk (Kd.R_elder' (by (with_reducible repeat (first | apply Kd.R_alloc | apply Kd.R_drewN | apply Kd.R_drew)); exact HO827.out) (Kd.R_base ho0) hb); have n1_ := Aside0.mk (Kd.R_lower (Kd.R_new' ho0 (Kd.R_lt (by (with_reducible repeat (first | apply Kd.R_alloc | apply Kd.R_drewN | apply Kd.R_drew)); exact HO827.out))) (below_size (by repeat (first | (with_reducible first | exact HB.out | apply below_alloc | apply pw_below_drewN | apply below_drew1) | exact HB.out)))); have n2_ := Aside0.mk (below_step (by repeat (first | (with_reducible first | exact HB.out | apply below_alloc | apply pw_below_drewN | apply below_drew1) | exact HB.out)) hb); clear HO827; clear HB; have HO827 := n0_; have HO831 := n1_; have HB := n2_; clear n0_ n1_ n2_; (try clear hb); (try clear hb2); (try clear hk); (try clear hi); (try clear ho0)) | ((with_reducible refine gate_callee (f := 23) rfl ?_); refine goesL_ (some 34) rfl rfl Try.func23 (by kernel_rfl) rfl #[.slice A0 l0.length c0] rfl (by (try simp only [List.map_toArray, List.map_cons, List.map_nil]); first | done | rfl | (simp only [List.length_drop, List.length_take]; rfl)) ?_; (with_reducible refine (shrink_Fixed.calls _ _ l0 t832 t833 _ ?side1 ?side2 A7.out).mono ?_); (case side1 => repeat (first | exact (Kd.C_below HR0.out HB.out) | (with_reducible refine Kd.C_alloc ?_ _) | (with_reducible refine Kd.C_drewN ?_ _) | (with_reducible refine Kd.C_drew ?_))); (case side2 => exact HC0.out); rintro e w12 ⟨v834, rfl, ho0, hb⟩; refine ⟨_, rfl, ?_⟩; have n0_ := Aside0.mk (Kd.R_elder' (by (with_reducible repeat (first | apply Kd.R_alloc | apply Kd.R_drewN | apply Kd.R_drew)); exact HO827.out) (Kd.R_base ho0) hb); have n1_ := Aside0.mk (Kd.R_elder' (by (with_reducible repeat (first | apply Kd.R_alloc | apply Kd.R_drewN | apply Kd.R_drew)); exact HO831.out) (Kd.R_base ho0) hb); have n2_ := Aside0.mk (Kd.R_lower (Kd.R_new' (Kd.R_new' ho0 (Kd.R_lt (by (with_reducible repeat (first | apply Kd.R_alloc | apply Kd.R_drewN | apply Kd.R_drew)); exact HO827.out))) (Kd.R_lt (by (with_reducible repeat (first | apply Kd.R_alloc | apply Kd.R_drewN | apply Kd.R_drew)); exact HO831.out))) (below_size (by repeat (first | (with_reducible first | exact HB.out | apply below_alloc | apply pw_below_drewN | apply below_drew1) | exact HB.out)))); have n3_ := Aside0.mk (below_step (by repeat (first | (with_reducible first | exact HB.out | apply below_alloc | apply pw_below_drewN | apply below_drew1) | exact HB.out)) hb); clear HO827; clear HO831; clear HB; have HO827 := n0_; have HO831 := n1_; have HO835 := n2_; have HB := n3_; clear n0_ n1_ n2_ n3_; (try clear hb); (try clear hb2); (try clear hk); (try clear hi); (try clear ho0)) | ((with_reducible refine gate_callee (f := 21) rfl ?_); refine goesL_ (some 39) rfl rfl Try.func21 (by kernel_rfl) rfl #[.slice A0 l0.length c0] rfl (by (try simp only [List.map_toArray, List.map_cons, List.map_nil]); first | done | rfl | (simp only [List.length_drop, List.length_take]; rfl)) ?_; (with_reducible refine (shrink_Dynamic.calls _ _ l0 t836 t837 _ ?side1 ?side2 A8.out).mono ?_); (case side1 => repeat (first | exact (Kd.C_below HR0.out HB.out) | (with_reducible refine Kd.C_alloc ?_ _) | (with_reducible refine Kd.C_drewN ?_ _) | (with_reducible refine Kd.C_drew ?_))); (case side2 => exact HC0.out); rintro e w13 ⟨v838, rfl, ho0, hb⟩; refine ⟨_, rfl, ?_⟩; have n0_ := Aside0.mk (Kd.R_elder' (by (with_reducible repeat (first | apply Kd.R_alloc | apply Kd.R_drewN | apply Kd.R_drew)); exact HO827.out) (Kd.R_base ho0) hb); have n1_ := Aside0.mk (Kd.R_elder' (by (with_reducible repeat (first | apply Kd.R_alloc | apply Kd.R_drewN | apply Kd.R_drew)); exact HO831.out) (Kd.R_base ho0) hb); have n2_ := Aside0.mk (Kd.R_elder' (by (with_reducible repeat (first | apply Kd.R_alloc | apply Kd.R_drewN | apply Kd.R_drew)); exact HO835.out) (Kd.R_base ho0) hb); have n3_ := Aside0.mk (Kd.R_lower (Kd.R_new' (Kd.R_new' (Kd.R_new' ho0 (Kd.R_lt (by (with_reducible repeat (first | apply Kd.R_alloc | apply Kd.R_drewN | apply Kd.R_drew)); exact HO827.out))) (Kd.R_lt (by (with_reducible repeat (first | apply Kd.R_alloc | apply Kd.R_drewN | apply Kd.R_drew)); exact HO831.out))) (Kd.R_lt (by (with_reducible repeat (first | apply Kd.R_alloc | apply Kd.R_drewN | apply Kd.R_drew)); exact HO835.out))) (below_size (by repeat (first | (with_reducible first | exact HB.out | apply below_alloc | apply pw_below_drewN | apply below_drew1) | exact HB.out)))); have n4_ := Aside0.mk (below_step (by repeat (first | (with_reducible first | exact HB.out | apply below_alloc | apply pw_below_drewN | apply below_drew1) | exact HB.out)) hb); clear HO827; clear HO831; clear HO835; clear HB; have HO827 := n0_; have HO831 := n1_; have HO835 := n2_; have HO839 := n3_; have HB := n4_; clear n0_ n1_ n2_ n3_ n4_; (try clear hb); (try clear hb2); (try clear hk); (try clear hi); (try clear ho0)))
    (try simp only [Act.put, List.setIfInBounds_toArray, List.set_cons_zero, List.set_cons_succ])
    go_cut [84] (fun v84 wc => ∃ (kq : Nat) (x84_8 : Bool), v84 = .bool x84_8 ∧ Aside0 (wherrylaw06_ShrinkLeast.j0 kq a1 a2 x84_8 = some r) ∧ Aside0 (kq ≤ k) ∧ Aside0 (Below w.heap.size w wc))
    case first =>
      have H := HC9.out
      clear HC9
      by_cases c14 : t825 = 0
      · rw [if_pos c14] at H
        have c14b0 : (t825 == 0) = true := beq_iff_eq.mpr c14
        have c14b1 : (t825 != 0) = false := bne_eq_false_iff_eq.mpr c14
        clear c14
        (first | rw [c14b0] | (simp only [i64_w, i32_w]; rw [c14b0]) | skip)
        by_cases c15 : t829 = 0
        · rw [if_pos c15] at H
          have c15b0 : (t829 == 0) = true := beq_iff_eq.mpr c15
          have c15b1 : (t829 != 0) = false := bne_eq_false_iff_eq.mpr c15
          clear c15
          by_cases c16 : t833 = 0
          · rw [if_pos c16] at H
            have c16b0 : (t833 == 0) = true := beq_iff_eq.mpr c16
            have c16b1 : (t833 != 0) = false := bne_eq_false_iff_eq.mpr c16
            clear c16
            by_cases c17 : t837 = 0
            · rw [if_pos c17] at H
              have c17b0 : (t837 == 0) = true := beq_iff_eq.mpr c17
              have c17b1 : (t837 != 0) = false := bne_eq_false_iff_eq.mpr c17
              clear c17
              by_cases c18 : (t828.length : Int) = (wrap64 ((l0.length : Int) + 5))
              · rw [if_pos c18] at H
                have c18b0 : ((t828.length : Int) == (wrap64 ((l0.length : Int) + 5))) = true := beq_iff_eq.mpr c18
                have c18b1 : ((t828.length : Int) != (wrap64 ((l0.length : Int) + 5))) = false := bne_eq_false_iff_eq.mpr c18
                clear c18
                by_cases c19 : (t824.length : Int) > (t828.length : Int)
                · rw [if_pos c19] at H
                  have c19b0 : decide ((t828.length : Int) < (t824.length : Int)) = true := decide_eq_true c19
                  have c19b1 : decide (t828.length < t824.length) = true := decide_eq_true (Int.ofNat_lt.mp c19)
                  clear c19
                  have H' := Aside0.mk H
                  clear H
                  obtain ⟨Ao20, co20, eo20⟩ := Kd.R_slice HO831.out
                  subst eo20
                  obtain ⟨Ao21, co21, eo21⟩ := Kd.R_slice HO827.out
                  subst eo21
                  go_wp2
                  go_meet
                  case rel => exact ⟨_, (true), (by first | rfl | (simp; done) | (simp [*]; done)), H', ⟨by first | omega | exact Nat.le_refl _⟩, ⟨by repeat (first | (with_reducible first | exact HB.out | apply below_alloc | apply pw_below_drewN | apply below_drew1) | exact HB.out)⟩⟩
                · rw [if_neg c19] at H
                  have c19b0 : decide ((t828.length : Int) < (t824.length : Int)) = false := decide_eq_false c19
                  have c19b1 : decide (t828.length < t824.length) = false := decide_eq_false (fun h => c19 (Int.ofNat_lt.mpr h))
                  clear c19
                  by_cases c22 : (t824.length : Int) > (t832.length : Int)
                  · rw [if_pos c22] at H
                    have c22b0 : decide ((t832.length : Int) < (t824.length : Int)) = true := decide_eq_true c22
                    have c22b1 : decide (t832.length < t824.length) = true := decide_eq_true (Int.ofNat_lt.mp c22)
                    clear c22
                    have H' := Aside0.mk H
                    clear H
                    obtain ⟨Ao23, co23, eo23⟩ := Kd.R_slice HO831.out
                    subst eo23
                    obtain ⟨Ao24, co24, eo24⟩ := Kd.R_slice HO827.out
                    subst eo24
                    obtain ⟨Ao25, co25, eo25⟩ := Kd.R_slice HO835.out
                    subst eo25
                    go_wp2
                    go_meet
                    case rel => exact ⟨_, (true), (by first | rfl | (simp; done) | (simp [*]; done)), H', ⟨by first | omega | exact Nat.le_refl _⟩, ⟨by repeat (first | (with_reducible first | exact HB.out | apply below_alloc | apply pw_below_drewN | apply below_drew1) | exact HB.out)⟩⟩
                  · rw [if_neg c22] at H
                    have c22b0 : decide ((t832.length : Int) < (t824.length : Int)) = false := decide_eq_false c22
                    have c22b1 : decide (t832.length < t824.length) = false := decide_eq_false (fun h => c22 (Int.ofNat_lt.mpr h))
                    clear c22
                    have H' := Aside0.mk H
                    clear H
                    obtain ⟨Ao26, co26, eo26⟩ := Kd.R_slice HO831.out
                    subst eo26
                    obtain ⟨Ao27, co27, eo27⟩ := Kd.R_slice HO827.out
                    subst eo27
                    obtain ⟨Ao28, co28, eo28⟩ := Kd.R_slice HO835.out
                    subst eo28
                    obtain ⟨Ao29, co29, eo29⟩ := Kd.R_slice HO839.out
                    subst eo29
                    go_wp2
                    go_meet
                    case rel => exact ⟨_, (decide ((t824.length : Int) > (t836.length : Int))), (by first | rfl | (simp; done) | (simp [*]; done)), H', ⟨by first | omega | exact Nat.le_refl _⟩, ⟨by repeat (first | (with_reducible first | exact HB.out | apply below_alloc | apply pw_below_drewN | apply below_drew1) | exact HB.out)⟩⟩
              · rw [if_neg c18] at H
                have c18b0 : ((t828.length : Int) == (wrap64 ((l0.length : Int) + 5))) = false := beq_eq_false_iff_ne.mpr c18
                have c18b1 : ((t828.length : Int) != (wrap64 ((l0.length : Int) + 5))) = true := bne_iff_ne.mpr c18
                have H' := Aside0.mk H
                clear H
                obtain ⟨Ao30, co30, eo30⟩ := Kd.R_slice HO831.out
                subst eo30
                go_wp2
                go_meet
                case rel => exact ⟨_, (true), (by first | rfl | (simp; done) | (simp [*]; done)), H', ⟨by first | omega | exact Nat.le_refl _⟩, ⟨by repeat (first | (with_reducible first | exact HB.out | apply below_alloc | apply pw_below_drewN | apply below_drew1) | exact HB.out)⟩⟩
            · rw [if_neg c17] at H
              have c17b0 : (t837 == 0) = false := beq_eq_false_iff_ne.mpr c17
              have c17b1 : (t837 != 0) = true := bne_iff_ne.mpr c17
              have H' := Aside0.mk H
              clear H
              go_wp2
              go_meet
              case rel => exact ⟨_, (true), (by first | rfl | (simp; done) | (simp [*]; done)), H', ⟨by first | omega | exact Nat.le_refl _⟩, ⟨by repeat (first | (with_reducible first | exact HB.out | apply below_alloc | apply pw_below_drewN | apply below_drew1) | exact HB.out)⟩⟩
          · rw [if_neg c16] at H
            have c16b0 : (t833 == 0) = false := beq_eq_false_iff_ne.mpr c16
            have c16b1 : (t833 != 0) = true := bne_iff_ne.mpr c16
            have H' := Aside0.mk H
            clear H
            go_wp2
            go_meet
            case rel => exact ⟨_, (true), (by first | rfl | (simp; done) | (simp [*]; done)), H', ⟨by first | omega | exact Nat.le_refl _⟩, ⟨by repeat (first | (with_reducible first | exact HB.out | apply below_alloc | apply pw_below_drewN | apply below_drew1) | exact HB.out)⟩⟩
        · rw [if_neg c15] at H
          have c15b0 : (t829 == 0) = false := beq_eq_false_iff_ne.mpr c15
          have c15b1 : (t829 != 0) = true := bne_iff_ne.mpr c15
          have H' := Aside0.mk H
          clear H
          go_wp2
          go_meet
          case rel => exact ⟨_, (true), (by first | rfl | (simp; done) | (simp [*]; done)), H', ⟨by first | omega | exact Nat.le_refl _⟩, ⟨by repeat (first | (with_reducible first | exact HB.out | apply below_alloc | apply pw_below_drewN | apply below_drew1) | exact HB.out)⟩⟩
      · rw [if_neg c14] at H
        have c14b0 : (t825 == 0) = false := beq_eq_false_iff_ne.mpr c14
        have c14b1 : (t825 != 0) = true := bne_iff_ne.mpr c14
        (first | rw [c14b0] | (simp only [i64_w, i32_w]; rw [c14b0]) | skip)
        have H' := Aside0.mk H
        clear H
        go_wp2
        go_meet
        case rel => exact ⟨_, (true), (by first | rfl | (simp; done) | (simp [*]; done)), H', ⟨by first | omega | exact Nat.le_refl _⟩, ⟨by repeat (first | (with_reducible first | exact HB.out | apply below_alloc | apply pw_below_drewN | apply below_drew1) | exact HB.out)⟩⟩
    case rest =>
      clear HC9
      try clear c1
      try clear c2
      try clear p2
      try clear c4
      try clear c4b0
      try clear c4b1
      try clear p6
      try clear c9
      try clear c12
      try clear c13
      try clear c14
      try clear c14b0
      try clear c14b1
      try clear c15
      try clear c15b0
      try clear c15b1
      try clear c16
      try clear c16b0
      try clear c16b1
      try clear c17
      try clear c17b0
      try clear c17b1
      try clear c18
      try clear c18b0
      try clear c18b1
      try clear c19
      try clear c19b0
      try clear c19b1
      try clear c21
      try clear c22
      try clear c22b0
      try clear c22b1
      try clear c23
      obtain ⟨kq, x84_8, rfl, HA, HJ8, HB⟩ := hcut
      cases kq with
      | zero => exact absurd HA.out (by simp [wherrylaw06_ShrinkLeast.j0])
      | succ kj8 =>
        have H := HA.out
        clear HA
        simp only [wherrylaw06_ShrinkLeast.j0] at H
        by_cases c31 : x84_8 = true
        · subst c31
          have H1 : (some false) = some r := by rw [if_pos rfl] at H; exact H
          clear H
          have H := H1
          clear H1
          obtain rfl := Option.some.inj H
          go_wp2
          go_ret
          exact ⟨by first | rfl | (simp [errW_none, errW_some] <;> rfl) | (simp [*, errW_none, errW_some] <;> rfl), by repeat (first | (with_reducible first | exact HB.out | apply below_alloc | apply pw_below_drewN | apply below_drew1) | exact HB.out)⟩
        · replace c31 := Bool.eq_false_iff.mpr c31
          subst c31
          have H1 : (wherrylaw06_ShrinkLeast.l0 kj8 a1 (wrap64 (Int.tmod (IntKind.u64.wrap (a2)) 1200)) ([] : List Int) 0) = some r := by rw [if_neg (show ¬ (false = true) by decide)] at H; exact H
          clear H
          have H := H1
          clear H1
          have H' := Aside0.mk H
          clear H
          go_wp2
          go_loopg [15, 16] kj8 (fun kq v15 v16 w' => ∃ (x15_2 : List Int) (x16_2 : Int), v16 = .int .i64 x16_2 ∧ Aside0 (wherrylaw06_ShrinkLeast.l0 kq a1 (wrap64 (Int.tmod (IntKind.u64.wrap (a2)) 1200)) x15_2 x16_2 = some r) ∧ Aside0 (kq ≤ kj8) ∧ Aside0 (Kd.R (Kd.int .u8) 5 w' w.heap.size (fun _ => True) v15 x15_2) ∧ Aside0 (Below w.heap.size w w'))
          case atStart => exact ⟨(([] : List Int)), (0), (by first | rfl | (simp; done) | (simp [*]; done)), H', ⟨Nat.le_refl _⟩, ⟨by first | exact Kd.R_nil _ _ _ _ _ | exact Kd.N_nil _ _ _ _ _ | exact Kd.V_nil _ _ _ _ _ | exact Kd.Q_nil _ _ _ _ _ | exact Kd.S_nil _ _ _ _ _⟩, ⟨by repeat (first | (with_reducible first | exact HB.out | apply below_alloc | apply pw_below_drewN | apply below_drew1) | exact HB.out)⟩⟩
          case round =>
            clear H'
            try clear c1
            try clear c2
            try clear p2
            try clear c3
            try clear c4
            try clear c4b0
            try clear c4b1
            try clear p6
            try clear c9
            try clear c12
            try clear c13
            try clear c14
            try clear c14b0
            try clear c14b1
            try clear c15
            try clear c15b0
            try clear c15b1
            try clear c16
            try clear c16b0
            try clear c16b1
            try clear c17
            try clear c17b0
            try clear c17b1
            try clear c18
            try clear c18b0
            try clear c18b1
            try clear c19
            try clear c19b0
            try clear c19b1
            try clear c21
            try clear c22
            try clear c22b0
            try clear c22b1
            try clear c23
            try clear c31
            try clear p2
            try clear p6
            obtain ⟨x15_2, x16_2, rfl, HA, HK2, HO_15, HB⟩ := hrel
            cases gk with
            | zero => exact absurd HA.out (by simp [wherrylaw06_ShrinkLeast.l0])
            | succ k2 =>
              have H := HA.out
              clear HA
              simp only [wherrylaw06_ShrinkLeast.l0] at H
              by_cases c32 : x16_2 < (wrap64 (Int.tmod (IntKind.u64.wrap (a2)) 1200))
              · rw [if_pos c32] at H
                have c32b0 : decide (x16_2 < (wrap64 (Int.tmod (IntKind.u64.wrap (a2)) 1200))) = true := decide_eq_true c32
                clear c32
                by_cases c33 : x15_2.length < 140737488355328
                · rw [if_pos c33] at H
                  have LMc33 := Aside0.mk c33
                  clear c33
                  obtain ⟨y840, hy840⟩ : ∃ y_ : List Int, y_ = (x15_2 ++ [a1]) := ⟨_, rfl⟩
                  replace H : (wherrylaw06_ShrinkLeast.l0 k2 a1 (wrap64 (Int.tmod (IntKind.u64.wrap (a2)) 1200)) y840 (wrap64 (x16_2 + 1))) = some r := by first | (rw [hy840]; with_reducible exact H) | (have H2_ := (Option.bind_some _ _).symm.trans H; rw [hy840]; with_reducible exact H2_) | (have H2_ := (Option.bind_some _ _).symm.trans H; with_reducible exact H2_) | with_reducible exact H | (rw [hy840]; exact H) | exact H
                  have Ny840 := Aside0.mk hy840
                  clear hy840
                  have H' := Aside0.mk H
                  clear H
                  go_wp2_with (first | ((with_reducible refine gate_builtin (b := .append) (xs := #[.tmp 94, .tmp 96]) rfl ?_); (try (refine gate_guard (by rfl) ?_; dsimp only)); at_builtin; refine Kd.R_append (Kd.int .u8) (w0 := w) w.heap.size rfl (.tmp 94) (.tmp 96) 23 5 (.int .u8 0) 1 rfl Try.underlying23 info5 rfl (by decide) (by omega) u15 x15_2 a1 [.int .u8 a1] (fun _ => True) (fun _ => False) rfl rfl ?aP (fun _ hk => hk.elim) ?aF ?aO ?aB ?aS ?aL ?_; (case aP => exact rfl); (case aB => exact (by repeat (first | (with_reducible first | exact HB.out | apply below_alloc | apply pw_below_drewN | apply below_drew1) | exact HB.out))); (case aF => exact (fun _ _ => trivial)); (case aO => exact (by (with_reducible repeat (first | apply Kd.R_alloc | apply Kd.R_drewN | apply Kd.R_drew)); exact HO_15.out)); (case aS => exact (below_size (by repeat (first | (with_reducible first | exact HB.out | apply below_alloc | apply pw_below_drewN | apply below_drew1) | exact HB.out)))); (case aL => have := LMc33.out; omega); intro v841 w34 ho hb hg hat; rw [← Ny840.out] at ho; have n0_ := Aside0.mk (hb); have n1_ := Aside0.mk (ho); clear HB; clear HO_15; have HB := n0_; have HO842 := n1_; clear n0_ n1_; clear ho hb hg hat))
                  go_roundg k2
                  case measure => have := HJ8.out; have := HK2.out; omega
                  case rel => exact ⟨(y840), (wrap64 (x16_2 + 1)), (by first | rfl | (simp; done) | (simp [*]; done)), H', ⟨by have := HJ8.out; have := HK2.out; omega⟩, ⟨by (with_reducible repeat (first | apply Kd.R_alloc | apply Kd.R_drewN | apply Kd.R_drew)); exact HO842.out⟩, ⟨by repeat (first | (with_reducible first | exact HB.out | apply below_alloc | apply pw_below_drewN | apply below_drew1) | exact HB.out)⟩⟩
                · rw [if_neg c33] at H
                  exact absurd H (by simp)
              · rw [if_neg c32] at H
                have c32b0 : decide (x16_2 < (wrap64 (Int.tmod (IntKind.u64.wrap (a2)) 1200))) = false := decide_eq_false c32
                clear c32
                replace H := Option.bind_eq_some_iff.mp H
                obtain ⟨⟨t843, t844⟩, A350, H⟩ := H
                replace H : (if t844 = 0 then (if (t843.length : Int) ≤ (wrap64 (8 + (wrap64 (2 * (wrap64 ((wrap64 (Int.tdiv (wrap64 (Int.tmod (IntKind.u64.wrap (a2)) 1200)) 258)) + 1)))))) then ((wherrylaw06_wakes.f).bind fun t847 => (some t847)) else (some false)) else (some false)) = some r := H
                have A35 := Aside0.mk A350
                clear A350
                by_cases c36 : t844 = 0
                · rw [if_pos c36] at H
                  have c36b0 : (t844 == 0) = true := beq_iff_eq.mpr c36
                  have c36b1 : (t844 != 0) = false := bne_eq_false_iff_eq.mpr c36
                  clear c36
                  by_cases c37 : (t843.length : Int) ≤ (wrap64 (8 + (wrap64 (2 * (wrap64 ((wrap64 (Int.tdiv (wrap64 (Int.tmod (IntKind.u64.wrap (a2)) 1200)) 258)) + 1))))))
                  · rw [if_pos c37] at H
                    have c37b0 : decide ((t843.length : Int) ≤ (wrap64 (8 + (wrap64 (2 * (wrap64 ((wrap64 (Int.tdiv (wrap64 (Int.tmod (IntKind.u64.wrap (a2)) 1200)) 258)) + 1))))))) = true := decide_eq_true c37
                    clear c37
                    replace H := Option.bind_eq_some_iff.mp H
                    obtain ⟨t847, A380, H⟩ := H
                    replace H : (some t847) = some r := H
                    have A38 := Aside0.mk A380
                    clear A380
                    obtain rfl := Option.some.inj H
                    obtain ⟨Ao39, co39, eo39⟩ := Kd.R_slice HO_15.out
                    subst eo39
                    go_wp2_with (first | ((with_reducible refine gate_callee (f := 12) rfl ?_); refine goesL_ (some 100) rfl rfl Try.func12 (by kernel_rfl) rfl #[.slice Ao39 x15_2.length co39] rfl (by (try simp only [List.map_toArray, List.map_cons, List.map_nil]); first | done | rfl | (simp only [List.length_drop, List.length_take]; rfl)) ?_; (with_reducible refine (shrink_Shrink.calls _ _ x15_2 t843 t844 _ ?side1 ?side2 A35.out).mono ?_); (case side1 => repeat (first | exact (Kd.R_reads' HO_15.out).2.2 | (with_reducible refine Kd.C_alloc ?_ _) | (with_reducible refine Kd.C_drewN ?_ _) | (with_reducible refine Kd.C_drew ?_))); (case side2 => exact (Kd.R_reads' HO_15.out).2.1); rintro e w40 ⟨v845, rfl, ho0, hb⟩; refine ⟨_, rfl, ?_⟩; have n0_ := Aside0.mk (Kd.R_elder' (by (with_reducible repeat (first | apply Kd.R_alloc | apply Kd.R_drewN | apply Kd.R_drew)); exact HO_15.out) (Kd.R_base ho0) hb); have n1_ := Aside0.mk (Kd.R_lower (Kd.R_new' ho0 (Kd.R_lt (by (with_reducible repeat (first | apply Kd.R_alloc | apply Kd.R_drewN | apply Kd.R_drew)); exact HO_15.out))) (below_size (by repeat (first | (with_reducible first | exact HB.out | apply below_alloc | apply pw_below_drewN | apply below_drew1) | exact HB.out)))); have n2_ := Aside0.mk (below_step (by repeat (first | (with_reducible first | exact HB.out | apply below_alloc | apply pw_below_drewN | apply below_drew1) | exact HB.out)) hb); clear HO_15; clear HB; have HO_15 := n0_; have HO846 := n1_; have HB := n2_; clear n0_ n1_ n2_; (try clear hb); (try clear hb2); (try clear hk); (try clear hi); (try clear ho0); obtain ⟨Ao41, co41, eo41⟩ := Kd.R_slice HO846.out; subst eo41) | (go_at_call 14; (with_reducible refine (wherrylaw06_wakes.calls  t847 _ A38.out).mono ?_); rintro e w42 ⟨rfl, hb⟩; have n0_ := Aside0.mk (Kd.R_below (by (with_reducible repeat (first | apply Kd.R_alloc | apply Kd.R_drewN | apply Kd.R_drew)); exact HO_15.out) hb); have n1_ := Aside0.mk (Kd.R_below (by (with_reducible repeat (first | apply Kd.R_alloc | apply Kd.R_drewN | apply Kd.R_drew)); exact HO846.out) hb); have n2_ := Aside0.mk (below_step (by repeat (first | (with_reducible first | exact HB.out | apply below_alloc | apply pw_below_drewN | apply below_drew1) | exact HB.out)) hb); clear HO_15; clear HO846; clear HB; have HO_15 := n0_; have HO846 := n1_; have HB := n2_; clear n0_ n1_ n2_; (try clear hb); (try clear hb2); (try clear hk); (try clear hi)))
                    go_ret
                    exact ⟨by first | rfl | (simp [errW_none, errW_some] <;> rfl) | (simp [*, errW_none, errW_some] <;> rfl), by repeat (first | (with_reducible first | exact HB.out | apply below_alloc | apply pw_below_drewN | apply below_drew1) | exact HB.out)⟩
                  · rw [if_neg c37] at H
                    have c37b0 : decide ((t843.length : Int) ≤ (wrap64 (8 + (wrap64 (2 * (wrap64 ((wrap64 (Int.tdiv (wrap64 (Int.tmod (IntKind.u64.wrap (a2)) 1200)) 258)) + 1))))))) = false := decide_eq_false c37
                    clear c37
                    obtain rfl := Option.some.inj H
                    obtain ⟨Ao43, co43, eo43⟩ := Kd.R_slice HO_15.out
                    subst eo43
                    go_wp2_with (first | ((with_reducible refine gate_callee (f := 12) rfl ?_); refine goesL_ (some 100) rfl rfl Try.func12 (by kernel_rfl) rfl #[.slice Ao43 x15_2.length co43] rfl (by (try simp only [List.map_toArray, List.map_cons, List.map_nil]); first | done | rfl | (simp only [List.length_drop, List.length_take]; rfl)) ?_; (with_reducible refine (shrink_Shrink.calls _ _ x15_2 t843 t844 _ ?side1 ?side2 A35.out).mono ?_); (case side1 => repeat (first | exact (Kd.R_reads' HO_15.out).2.2 | (with_reducible refine Kd.C_alloc ?_ _) | (with_reducible refine Kd.C_drewN ?_ _) | (with_reducible refine Kd.C_drew ?_))); (case side2 => exact (Kd.R_reads' HO_15.out).2.1); rintro e w44 ⟨v845, rfl, ho0, hb⟩; refine ⟨_, rfl, ?_⟩; have n0_ := Aside0.mk (Kd.R_elder' (by (with_reducible repeat (first | apply Kd.R_alloc | apply Kd.R_drewN | apply Kd.R_drew)); exact HO_15.out) (Kd.R_base ho0) hb); have n1_ := Aside0.mk (Kd.R_lower (Kd.R_new' ho0 (Kd.R_lt (by (with_reducible repeat (first | apply Kd.R_alloc | apply Kd.R_drewN | apply Kd.R_drew)); exact HO_15.out))) (below_size (by repeat (first | (with_reducible first | exact HB.out | apply below_alloc | apply pw_below_drewN | apply below_drew1) | exact HB.out)))); have n2_ := Aside0.mk (below_step (by repeat (first | (with_reducible first | exact HB.out | apply below_alloc | apply pw_below_drewN | apply below_drew1) | exact HB.out)) hb); clear HO_15; clear HB; have HO_15 := n0_; have HO846 := n1_; have HB := n2_; clear n0_ n1_ n2_; (try clear hb); (try clear hb2); (try clear hk); (try clear hi); (try clear ho0); obtain ⟨Ao45, co45, eo45⟩ := Kd.R_slice HO846.out; subst eo45))
                    go_ret
                    exact ⟨by first | rfl | (simp [errW_none, errW_some] <;> rfl) | (simp [*, errW_none, errW_some] <;> rfl), by repeat (first | (with_reducible first | exact HB.out | apply below_alloc | apply pw_below_drewN | apply below_drew1) | exact HB.out)⟩
                · rw [if_neg c36] at H
                  have c36b0 : (t844 == 0) = false := beq_eq_false_iff_ne.mpr c36
                  have c36b1 : (t844 != 0) = true := bne_iff_ne.mpr c36
                  obtain rfl := Option.some.inj H
                  obtain ⟨Ao46, co46, eo46⟩ := Kd.R_slice HO_15.out
                  subst eo46
                  go_wp2_with (first | ((with_reducible refine gate_callee (f := 12) rfl ?_); refine goesL_ (some 100) rfl rfl Try.func12 (by kernel_rfl) rfl #[.slice Ao46 x15_2.length co46] rfl (by (try simp only [List.map_toArray, List.map_cons, List.map_nil]); first | done | rfl | (simp only [List.length_drop, List.length_take]; rfl)) ?_; (with_reducible refine (shrink_Shrink.calls _ _ x15_2 t843 t844 _ ?side1 ?side2 A35.out).mono ?_); (case side1 => repeat (first | exact (Kd.R_reads' HO_15.out).2.2 | (with_reducible refine Kd.C_alloc ?_ _) | (with_reducible refine Kd.C_drewN ?_ _) | (with_reducible refine Kd.C_drew ?_))); (case side2 => exact (Kd.R_reads' HO_15.out).2.1); rintro e w47 ⟨v845, rfl, ho0, hb⟩; refine ⟨_, rfl, ?_⟩; have n0_ := Aside0.mk (Kd.R_elder' (by (with_reducible repeat (first | apply Kd.R_alloc | apply Kd.R_drewN | apply Kd.R_drew)); exact HO_15.out) (Kd.R_base ho0) hb); have n1_ := Aside0.mk (Kd.R_lower (Kd.R_new' ho0 (Kd.R_lt (by (with_reducible repeat (first | apply Kd.R_alloc | apply Kd.R_drewN | apply Kd.R_drew)); exact HO_15.out))) (below_size (by repeat (first | (with_reducible first | exact HB.out | apply below_alloc | apply pw_below_drewN | apply below_drew1) | exact HB.out)))); have n2_ := Aside0.mk (below_step (by repeat (first | (with_reducible first | exact HB.out | apply below_alloc | apply pw_below_drewN | apply below_drew1) | exact HB.out)) hb); clear HO_15; clear HB; have HO_15 := n0_; have HO846 := n1_; have HB := n2_; clear n0_ n1_ n2_; (try clear hb); (try clear hb2); (try clear hk); (try clear hi); (try clear ho0)))
                  go_ret
                  exact ⟨by first | rfl | (simp [errW_none, errW_some] <;> rfl) | (simp [*, errW_none, errW_some] <;> rfl), by repeat (first | (with_reducible first | exact HB.out | apply below_alloc | apply pw_below_drewN | apply below_drew1) | exact HB.out)⟩

/-- THE ONE PURE STATEMENT of wherrylaw06_ShrinkLeast: yours. -/
def wherrylaw06_ShrinkLeast.Pure : Prop := ∀ (l0 : List Int) (a1 : Int) (a2 : Int), l0.length ≤ maxLen → l0.length * 1 ≤ 140737488351232 → (∀ x ∈ l0, (Lit.int .u8 x).wf = true) → (Lit.int .u8 a1).wf = true → (Lit.int .i64 a2).wf = true → ∃ k, wherrylaw06_ShrinkLeast.f k l0 a1 a2 = some true
theorem wherrylaw06_ShrinkLeast.walk (P : wherrylaw06_ShrinkLeast.Pure) (a0 : Option Addr) (len0 cap0 : Nat) (z0 : List Int) (a1 : Int) (a2 : Int) (w : World) (w0 : (a0 = none ∧ len0 = 0 ∧ cap0 = 0 ∧ z0 = []) ∨ ∃ x, a0 = some x ∧ len0 ≤ cap0 ∧ cap0 ≤ maxLen ∧ z0.length = cap0 ∧ (∀ i, i < z0.length → w.cell? (x.add i) = some (.int .u8 (z0.getD i 0))) ∧ ∀ n ∈ z0, (Lit.int .u8 n).wf = true) (y0 : len0 * 1 ≤ 140737488351232) (w1 : (Lit.int .u8 a1).wf = true) (w2 : (Lit.int .i64 a2).wf = true) :
    Calls Try.prog 9 #[.slice a0 len0 cap0, .int .u8 a1, .int .i64 a2] w fun e w' => e = .returned (.bool true) ∧ Below w.heap.size w w' := by
  obtain ⟨l0, rfl, hr0, hm0, hw0, hc0⟩ := ReadsInt.ofRowC w0
  obtain ⟨k, h⟩ := P l0 a1 a2 hm0 y0 hw0 w1 w2
  refine (wherrylaw06_ShrinkLeast.calls k _ _ l0 a1 a2 true w (Kd.C_of_reads (d := (0 : Int)) (h1 := fun _ => rfl) hr0) hc0 h).mono ?_
  rintro e w' ⟨rfl, hd⟩
  exact ⟨rfl, hd⟩

-- PART
end Go.Proofs.Ytlffpaploefljaa.P
