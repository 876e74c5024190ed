-- PRINTED BY print.sh 35421559b90ae4d0a3588c463048766b98c2df88dd9212a6774a882060cdf62d: not written by this session
import Derived.Test.YtfghmdjlhfclaaaPSymOncex0
import Derived.Test.YtfghmdjlhfclaaaPSymOncex1
namespace Go.Proofs.Ytfghmdjlhfclaaa.PSymOnce
open Go.RowKit Go.Proofs.YtfghmdjlhfclaaaW.PrintWords Go.Proofs.YtfghmdjlhfclaaaW.PrintLast Go.Proofs.YtfghmdjlhfclaaaW.PrintMore
attribute [local go_sem] max2_int min2_int max_two min_two max_three min_three max_four min_four   -- for this text's walks alone
set_option linter.unusedVariables false
set_option linter.unusedSimpArgs false

/-! ### wherrylaw05_wakes: function 13 -/
def wherrylaw05_wakes.f (k : Nat)  : Option (Bool) := (sym_Len.f k 11).bind fun bt125 => ((sym_Dist.f k 5).bind fun bt129 => (if bt125.2.2.2 = 0 then (if bt129.2.2.2 = 0 then (if bt125.1 = 265 then (if bt125.2.1 = 1 then (if bt125.2.2.1 = 0 then (if bt129.1 = 4 then (if bt129.2.1 = 1 then (some (bt129.2.2.1 == 0)) else (some false)) else (some false)) else (some false)) else (some false)) else (some false)) else (some false)) else (some false)))
theorem wherrylaw05_wakes.mono : ∀ k, LeO (wherrylaw05_wakes.f k ) (wherrylaw05_wakes.f (k + 1) ) := by
  intro  k
  unfold wherrylaw05_wakes.f
  repeat' first
      | (with_reducible exact sym_Dist.mono _ _)
      | (with_reducible exact sym_Len.mono _ _)
      | (with_reducible exact LeO.refl _)
      | (with_reducible exact LeO.none _)
      | (with_reducible refine LeO.ite ?_ ?_)
      | (with_reducible refine LeO.bind ?_ (fun _ => ?_))
      | exact sym_Dist.mono _ _
      | exact sym_Len.mono _ _
      | exact LeO.none _
      | refine LeO.ite ?_ ?_
      | refine LeO.bind ?_ (fun _ => ?_)
set_option maxHeartbeats 8000000 in
set_option maxRecDepth 100000 in
theorem wherrylaw05_wakes.calls (k : Nat)  (r : Bool) (w : World) (h : wherrylaw05_wakes.f k  = some r) :
    Calls Try.prog 13 #[] w fun e w' => e = .returned (.bool r) ∧ Below w.heap.size w w' := by
  have HB := Aside0.mk (Below.refl w.heap.size w)
  have H : ((sym_Len.f k 11).bind fun bt125 => ((sym_Dist.f k 5).bind fun bt129 => (if bt125.2.2.2 = 0 then (if bt129.2.2.2 = 0 then (if bt125.1 = 265 then (if bt125.2.1 = 1 then (if bt125.2.2.1 = 0 then (if bt129.1 = 4 then (if bt129.2.1 = 1 then (some (bt129.2.2.1 == 0)) else (some false)) else (some false)) else (some false)) else (some false)) else (some false)) else (some false)) else (some false)))) = some r := h
  clear h
  replace H := Option.bind_eq_some_iff.mp H
  obtain ⟨⟨t125, t126, t127, t128⟩, A10, H⟩ := H
  replace H : ((sym_Dist.f k 5).bind fun bt129 => (if t128 = 0 then (if bt129.2.2.2 = 0 then (if t125 = 265 then (if t126 = 1 then (if t127 = 0 then (if bt129.1 = 4 then (if bt129.2.1 = 1 then (some (bt129.2.2.1 == 0)) else (some false)) else (some false)) else (some false)) else (some false)) else (some false)) else (some false)) else (some false))) = some r := H
  have A1 := Aside0.mk A10
  clear A10
  replace H := Option.bind_eq_some_iff.mp H
  obtain ⟨⟨t129, t130, t131, t132⟩, A20, H⟩ := H
  replace H : (if t128 = 0 then (if t132 = 0 then (if t125 = 265 then (if t126 = 1 then (if t127 = 0 then (if t129 = 4 then (if t130 = 1 then (some (t131 == 0)) else (some false)) else (some false)) else (some false)) else (some false)) else (some false)) else (some false)) else (some false)) = some r := H
  have A2 := Aside0.mk A20
  clear A20
  by_cases c3 : t128 = 0
  · rw [if_pos c3] at H
    have c3b0 : (t128 == 0) = true := beq_iff_eq.mpr c3
    have c3b1 : (t128 != 0) = false := bne_eq_false_iff_eq.mpr c3
    clear c3
    by_cases c4 : t132 = 0
    · rw [if_pos c4] at H
      have c4b0 : (t132 == 0) = true := beq_iff_eq.mpr c4
      have c4b1 : (t132 != 0) = false := bne_eq_false_iff_eq.mpr c4
      clear c4
      by_cases c5 : t125 = 265
      · rw [if_pos c5] at H
        have c5b0 : (t125 == 265) = true := beq_iff_eq.mpr c5
        have c5b1 : (t125 != 265) = false := bne_eq_false_iff_eq.mpr c5
        clear c5
        by_cases c6 : t126 = 1
        · rw [if_pos c6] at H
          have c6b0 : (t126 == 1) = true := beq_iff_eq.mpr c6
          have c6b1 : (t126 != 1) = false := bne_eq_false_iff_eq.mpr c6
          clear c6
          by_cases c7 : t127 = 0
          · rw [if_pos c7] at H
            have c7b0 : (t127 == 0) = true := beq_iff_eq.mpr c7
            have c7b1 : (t127 != 0) = false := bne_eq_false_iff_eq.mpr c7
            clear c7
            by_cases c8 : t129 = 4
            · rw [if_pos c8] at H
              have c8b0 : (t129 == 4) = true := beq_iff_eq.mpr c8
              have c8b1 : (t129 != 4) = false := bne_eq_false_iff_eq.mpr c8
              clear c8
              by_cases c9 : t130 = 1
              · rw [if_pos c9] at H
                have c9b0 : (t130 == 1) = true := beq_iff_eq.mpr c9
                have c9b1 : (t130 != 1) = false := bne_eq_false_iff_eq.mpr c9
                clear c9
                obtain rfl := Option.some.inj H
                go_enter Try.func13, Try.ntmps13
                go_wp2_with (first | ((with_reducible refine gate_callee (f := 9) rfl ?_); refine goesL_ (some 10) rfl rfl Try.func9 (by kernel_rfl) rfl #[.int .i64 11] rfl (by (try simp only [List.map_toArray, List.map_cons, List.map_nil]); first | done | rfl | (simp only [List.length_drop, List.length_take]; rfl)) ?_; (with_reducible refine (sym_Len.calls k 11 t125 t126 t127 t128 _ A1.out).mono ?_); rintro e w10 ⟨rfl, hb⟩; refine ⟨_, rfl, ?_⟩; have n0_ := Aside0.mk (below_step (by repeat (first | (with_reducible first | exact HB.out | apply below_alloc | apply pw_below_drewN | apply below_drew1) | exact HB.out)) hb); clear HB; have HB := n0_; clear n0_; (try clear hb); (try clear hb2); (try clear hk); (try clear hi)) | ((with_reducible refine gate_callee (f := 11) rfl ?_); refine goesL_ (some 16) rfl rfl Try.func11 (by kernel_rfl) rfl #[.int .i64 5] rfl (by (try simp only [List.map_toArray, List.map_cons, List.map_nil]); first | done | rfl | (simp only [List.length_drop, List.length_take]; rfl)) ?_; (with_reducible refine (sym_Dist.calls k 5 t129 t130 t131 t132 _ A2.out).mono ?_); rintro e w11 ⟨rfl, hb⟩; refine ⟨_, rfl, ?_⟩; have n0_ := Aside0.mk (below_step (by repeat (first | (with_reducible first | exact HB.out | apply below_alloc | apply pw_below_drewN | apply below_drew1) | exact HB.out)) hb); clear HB; have HB := n0_; clear n0_; (try clear hb); (try clear hb2); (try clear hk); (try clear hi)))
                go_ret
                exact ⟨by first | rfl | (simp [errW_none, errW_some] <;> rfl) | (simp [*, errW_none, errW_some] <;> rfl), by repeat (first | (with_reducible first | exact HB.out | apply below_alloc | apply pw_below_drewN | apply below_drew1) | exact HB.out)⟩
              · rw [if_neg c9] at H
                have c9b0 : (t130 == 1) = false := beq_eq_false_iff_ne.mpr c9
                have c9b1 : (t130 != 1) = true := bne_iff_ne.mpr c9
                obtain rfl := Option.some.inj H
                go_enter Try.func13, Try.ntmps13
                go_wp2_with (first | ((with_reducible refine gate_callee (f := 9) rfl ?_); refine goesL_ (some 10) rfl rfl Try.func9 (by kernel_rfl) rfl #[.int .i64 11] rfl (by (try simp only [List.map_toArray, List.map_cons, List.map_nil]); first | done | rfl | (simp only [List.length_drop, List.length_take]; rfl)) ?_; (with_reducible refine (sym_Len.calls k 11 t125 t126 t127 t128 _ A1.out).mono ?_); rintro e w12 ⟨rfl, hb⟩; refine ⟨_, rfl, ?_⟩; have n0_ := Aside0.mk (below_step (by repeat (first | (with_reducible first | exact HB.out | apply below_alloc | apply pw_below_drewN | apply below_drew1) | exact HB.out)) hb); clear HB; have HB := n0_; clear n0_; (try clear hb); (try clear hb2); (try clear hk); (try clear hi)) | ((with_reducible refine gate_callee (f := 11) rfl ?_); refine goesL_ (some 16) rfl rfl Try.func11 (by kernel_rfl) rfl #[.int .i64 5] rfl (by (try simp only [List.map_toArray, List.map_cons, List.map_nil]); first | done | rfl | (simp only [List.length_drop, List.length_take]; rfl)) ?_; (with_reducible refine (sym_Dist.calls k 5 t129 t130 t131 t132 _ A2.out).mono ?_); rintro e w13 ⟨rfl, hb⟩; refine ⟨_, rfl, ?_⟩; have n0_ := Aside0.mk (below_step (by repeat (first | (with_reducible first | exact HB.out | apply below_alloc | apply pw_below_drewN | apply below_drew1) | exact HB.out)) hb); clear HB; have HB := n0_; clear n0_; (try clear hb); (try clear hb2); (try clear hk); (try clear hi)))
                go_ret
                exact ⟨by first | rfl | (simp [errW_none, errW_some] <;> rfl) | (simp [*, errW_none, errW_some] <;> rfl), by repeat (first | (with_reducible first | exact HB.out | apply below_alloc | apply pw_below_drewN | apply below_drew1) | exact HB.out)⟩
            · rw [if_neg c8] at H
              have c8b0 : (t129 == 4) = false := beq_eq_false_iff_ne.mpr c8
              have c8b1 : (t129 != 4) = true := bne_iff_ne.mpr c8
              obtain rfl := Option.some.inj H
              go_enter Try.func13, Try.ntmps13
              go_wp2_with (first | ((with_reducible refine gate_callee (f := 9) rfl ?_); refine goesL_ (some 10) rfl rfl Try.func9 (by kernel_rfl) rfl #[.int .i64 11] rfl (by (try simp only [List.map_toArray, List.map_cons, List.map_nil]); first | done | rfl | (simp only [List.length_drop, List.length_take]; rfl)) ?_; (with_reducible refine (sym_Len.calls k 11 t125 t126 t127 t128 _ A1.out).mono ?_); rintro e w14 ⟨rfl, hb⟩; refine ⟨_, rfl, ?_⟩; have n0_ := Aside0.mk (below_step (by repeat (first | (with_reducible first | exact HB.out | apply below_alloc | apply pw_below_drewN | apply below_drew1) | exact HB.out)) hb); clear HB; have HB := n0_; clear n0_; (try clear hb); (try clear hb2); (try clear hk); (try clear hi)) | ((with_reducible refine gate_callee (f := 11) rfl ?_); refine goesL_ (some 16) rfl rfl Try.func11 (by kernel_rfl) rfl #[.int .i64 5] rfl (by (try simp only [List.map_toArray, List.map_cons, List.map_nil]); first | done | rfl | (simp only [List.length_drop, List.length_take]; rfl)) ?_; (with_reducible refine (sym_Dist.calls k 5 t129 t130 t131 t132 _ A2.out).mono ?_); rintro e w15 ⟨rfl, hb⟩; refine ⟨_, rfl, ?_⟩; have n0_ := Aside0.mk (below_step (by repeat (first | (with_reducible first | exact HB.out | apply below_alloc | apply pw_below_drewN | apply below_drew1) | exact HB.out)) hb); clear HB; have HB := n0_; clear n0_; (try clear hb); (try clear hb2); (try clear hk); (try clear hi)))
              go_ret
              exact ⟨by first | rfl | (simp [errW_none, errW_some] <;> rfl) | (simp [*, errW_none, errW_some] <;> rfl), by repeat (first | (with_reducible first | exact HB.out | apply below_alloc | apply pw_below_drewN | apply below_drew1) | exact HB.out)⟩
          · rw [if_neg c7] at H
            have c7b0 : (t127 == 0) = false := beq_eq_false_iff_ne.mpr c7
            have c7b1 : (t127 != 0) = true := bne_iff_ne.mpr c7
            obtain rfl := Option.some.inj H
            go_enter Try.func13, Try.ntmps13
            go_wp2_with (first | ((with_reducible refine gate_callee (f := 9) rfl ?_); refine goesL_ (some 10) rfl rfl Try.func9 (by kernel_rfl) rfl #[.int .i64 11] rfl (by (try simp only [List.map_toArray, List.map_cons, List.map_nil]); first | done | rfl | (simp only [List.length_drop, List.length_take]; rfl)) ?_; (with_reducible refine (sym_Len.calls k 11 t125 t126 t127 t128 _ A1.out).mono ?_); rintro e w16 ⟨rfl, hb⟩; refine ⟨_, rfl, ?_⟩; have n0_ := Aside0.mk (below_step (by repeat (first | (with_reducible first | exact HB.out | apply below_alloc | apply pw_below_drewN | apply below_drew1) | exact HB.out)) hb); clear HB; have HB := n0_; clear n0_; (try clear hb); (try clear hb2); (try clear hk); (try clear hi)) | ((with_reducible refine gate_callee (f := 11) rfl ?_); refine goesL_ (some 16) rfl rfl Try.func11 (by kernel_rfl) rfl #[.int .i64 5] rfl (by (try simp only [List.map_toArray, List.map_cons, List.map_nil]); first | done | rfl | (simp only [List.length_drop, List.length_take]; rfl)) ?_; (with_reducible refine (sym_Dist.calls k 5 t129 t130 t131 t132 _ A2.out).mono ?_); rintro e w17 ⟨rfl, hb⟩; refine ⟨_, rfl, ?_⟩; have n0_ := Aside0.mk (below_step (by repeat (first | (with_reducible first | exact HB.out | apply below_alloc | apply pw_below_drewN | apply below_drew1) | exact HB.out)) hb); clear HB; have HB := n0_; clear n0_; (try clear hb); (try clear hb2); (try clear hk); (try clear hi)))
            go_ret
            exact ⟨by first | rfl | (simp [errW_none, errW_some] <;> rfl) | (simp [*, errW_none, errW_some] <;> rfl), by repeat (first | (with_reducible first | exact HB.out | apply below_alloc | apply pw_below_drewN | apply below_drew1) | exact HB.out)⟩
        · rw [if_neg c6] at H
          have c6b0 : (t126 == 1) = false := beq_eq_false_iff_ne.mpr c6
          have c6b1 : (t126 != 1) = true := bne_iff_ne.mpr c6
          obtain rfl := Option.some.inj H
          go_enter Try.func13, Try.ntmps13
          go_wp2_with (first | ((with_reducible refine gate_callee (f := 9) rfl ?_); refine goesL_ (some 10) rfl rfl Try.func9 (by kernel_rfl) rfl #[.int .i64 11] rfl (by (try simp only [List.map_toArray, List.map_cons, List.map_nil]); first | done | rfl | (simp only [List.length_drop, List.length_take]; rfl)) ?_; (with_reducible refine (sym_Len.calls k 11 t125 t126 t127 t128 _ A1.out).mono ?_); rintro e w18 ⟨rfl, hb⟩; refine ⟨_, rfl, ?_⟩; have n0_ := Aside0.mk (below_step (by repeat (first | (with_reducible first | exact HB.out | apply below_alloc | apply pw_below_drewN | apply below_drew1) | exact HB.out)) hb); clear HB; have HB := n0_; clear n0_; (try clear hb); (try clear hb2); (try clear hk); (try clear hi)) | ((with_reducible refine gate_callee (f := 11) rfl ?_); refine goesL_ (some 16) rfl rfl Try.func11 (by kernel_rfl) rfl #[.int .i64 5] rfl (by (try simp only [List.map_toArray, List.map_cons, List.map_nil]); first | done | rfl | (simp only [List.length_drop, List.length_take]; rfl)) ?_; (with_reducible refine (sym_Dist.calls k 5 t129 t130 t131 t132 _ A2.out).mono ?_); rintro e w19 ⟨rfl, hb⟩; refine ⟨_, rfl, ?_⟩; have n0_ := Aside0.mk (below_step (by repeat (first | (with_reducible first | exact HB.out | apply below_alloc | apply pw_below_drewN | apply below_drew1) | exact HB.out)) hb); clear HB; have HB := n0_; clear n0_; (try clear hb); (try clear hb2); (try clear hk); (try clear hi)))
          go_ret
          exact ⟨by first | rfl | (simp [errW_none, errW_some] <;> rfl) | (simp [*, errW_none, errW_some] <;> rfl), by repeat (first | (with_reducible first | exact HB.out | apply below_alloc | apply pw_below_drewN | apply below_drew1) | exact HB.out)⟩
      · rw [if_neg c5] at H
        have c5b0 : (t125 == 265) = false := beq_eq_false_iff_ne.mpr c5
        have c5b1 : (t125 != 265) = true := bne_iff_ne.mpr c5
        obtain rfl := Option.some.inj H
        go_enter Try.func13, Try.ntmps13
        go_wp2_with (first | ((with_reducible refine gate_callee (f := 9) rfl ?_); refine goesL_ (some 10) rfl rfl Try.func9 (by kernel_rfl) rfl #[.int .i64 11] rfl (by (try simp only [List.map_toArray, List.map_cons, List.map_nil]); first | done | rfl | (simp only [List.length_drop, List.length_take]; rfl)) ?_; (with_reducible refine (sym_Len.calls k 11 t125 t126 t127 t128 _ A1.out).mono ?_); rintro e w20 ⟨rfl, hb⟩; refine ⟨_, rfl, ?_⟩; have n0_ := Aside0.mk (below_step (by repeat (first | (with_reducible first | exact HB.out | apply below_alloc | apply pw_below_drewN | apply below_drew1) | exact HB.out)) hb); clear HB; have HB := n0_; clear n0_; (try clear hb); (try clear hb2); (try clear hk); (try clear hi)) | ((with_reducible refine gate_callee (f := 11) rfl ?_); refine goesL_ (some 16) rfl rfl Try.func11 (by kernel_rfl) rfl #[.int .i64 5] rfl (by (try simp only [List.map_toArray, List.map_cons, List.map_nil]); first | done | rfl | (simp only [List.length_drop, List.length_take]; rfl)) ?_; (with_reducible refine (sym_Dist.calls k 5 t129 t130 t131 t132 _ A2.out).mono ?_); rintro e w21 ⟨rfl, hb⟩; refine ⟨_, rfl, ?_⟩; have n0_ := Aside0.mk (below_step (by repeat (first | (with_reducible first | exact HB.out | apply below_alloc | apply pw_below_drewN | apply below_drew1) | exact HB.out)) hb); clear HB; have HB := n0_; clear n0_; (try clear hb); (try clear hb2); (try clear hk); (try clear hi)))
        go_ret
        exact ⟨by first | rfl | (simp [errW_none, errW_some] <;> rfl) | (simp [*, errW_none, errW_some] <;> rfl), by repeat (first | (with_reducible first | exact HB.out | apply below_alloc | apply pw_below_drewN | apply below_drew1) | exact HB.out)⟩
    · rw [if_neg c4] at H
      have c4b0 : (t132 == 0) = false := beq_eq_false_iff_ne.mpr c4
      have c4b1 : (t132 != 0) = true := bne_iff_ne.mpr c4
      obtain rfl := Option.some.inj H
      go_enter Try.func13, Try.ntmps13
      go_wp2_with (first | ((with_reducible refine gate_callee (f := 9) rfl ?_); refine goesL_ (some 10) rfl rfl Try.func9 (by kernel_rfl) rfl #[.int .i64 11] rfl (by (try simp only [List.map_toArray, List.map_cons, List.map_nil]); first | done | rfl | (simp only [List.length_drop, List.length_take]; rfl)) ?_; (with_reducible refine (sym_Len.calls k 11 t125 t126 t127 t128 _ A1.out).mono ?_); rintro e w22 ⟨rfl, hb⟩; refine ⟨_, rfl, ?_⟩; have n0_ := Aside0.mk (below_step (by repeat (first | (with_reducible first | exact HB.out | apply below_alloc | apply pw_below_drewN | apply below_drew1) | exact HB.out)) hb); clear HB; have HB := n0_; clear n0_; (try clear hb); (try clear hb2); (try clear hk); (try clear hi)) | ((with_reducible refine gate_callee (f := 11) rfl ?_); refine goesL_ (some 16) rfl rfl Try.func11 (by kernel_rfl) rfl #[.int .i64 5] rfl (by (try simp only [List.map_toArray, List.map_cons, List.map_nil]); first | done | rfl | (simp only [List.length_drop, List.length_take]; rfl)) ?_; (with_reducible refine (sym_Dist.calls k 5 t129 t130 t131 t132 _ A2.out).mono ?_); rintro e w23 ⟨rfl, hb⟩; refine ⟨_, rfl, ?_⟩; have n0_ := Aside0.mk (below_step (by repeat (first | (with_reducible first | exact HB.out | apply below_alloc | apply pw_below_drewN | apply below_drew1) | exact HB.out)) hb); clear HB; have HB := n0_; clear n0_; (try clear hb); (try clear hb2); (try clear hk); (try clear hi)))
      go_ret
      exact ⟨by first | rfl | (simp [errW_none, errW_some] <;> rfl) | (simp [*, errW_none, errW_some] <;> rfl), by repeat (first | (with_reducible first | exact HB.out | apply below_alloc | apply pw_below_drewN | apply below_drew1) | exact HB.out)⟩
  · rw [if_neg c3] at H
    have c3b0 : (t128 == 0) = false := beq_eq_false_iff_ne.mpr c3
    have c3b1 : (t128 != 0) = true := bne_iff_ne.mpr c3
    obtain rfl := Option.some.inj H
    go_enter Try.func13, Try.ntmps13
    go_wp2_with (first | ((with_reducible refine gate_callee (f := 9) rfl ?_); refine goesL_ (some 10) rfl rfl Try.func9 (by kernel_rfl) rfl #[.int .i64 11] rfl (by (try simp only [List.map_toArray, List.map_cons, List.map_nil]); first | done | rfl | (simp only [List.length_drop, List.length_take]; rfl)) ?_; (with_reducible refine (sym_Len.calls k 11 t125 t126 t127 t128 _ A1.out).mono ?_); rintro e w24 ⟨rfl, hb⟩; refine ⟨_, rfl, ?_⟩; have n0_ := Aside0.mk (below_step (by repeat (first | (with_reducible first | exact HB.out | apply below_alloc | apply pw_below_drewN | apply below_drew1) | exact HB.out)) hb); clear HB; have HB := n0_; clear n0_; (try clear hb); (try clear hb2); (try clear hk); (try clear hi)) | ((with_reducible refine gate_callee (f := 11) rfl ?_); refine goesL_ (some 16) rfl rfl Try.func11 (by kernel_rfl) rfl #[.int .i64 5] rfl (by (try simp only [List.map_toArray, List.map_cons, List.map_nil]); first | done | rfl | (simp only [List.length_drop, List.length_take]; rfl)) ?_; (with_reducible refine (sym_Dist.calls k 5 t129 t130 t131 t132 _ A2.out).mono ?_); rintro e w25 ⟨rfl, hb⟩; refine ⟨_, rfl, ?_⟩; have n0_ := Aside0.mk (below_step (by repeat (first | (with_reducible first | exact HB.out | apply below_alloc | apply pw_below_drewN | apply below_drew1) | exact HB.out)) hb); clear HB; have HB := n0_; clear n0_; (try clear hb); (try clear hb2); (try clear hk); (try clear hi)))
    go_ret
    exact ⟨by first | rfl | (simp [errW_none, errW_some] <;> rfl) | (simp [*, errW_none, errW_some] <;> rfl), by repeat (first | (with_reducible first | exact HB.out | apply below_alloc | apply pw_below_drewN | apply below_drew1) | exact HB.out)⟩

/-! ### wherrylaw05_SymOnce: function 3 -/
mutual
def wherrylaw05_SymOnce.j0 : Nat → Int → Int → Int → Bool → Option (Bool)
  | 0, _, _, _, _ => none
  | k + 1, x0, x1, x5, x80 => if x80 = true then (some false) else ((sym_Dist.f k x1).bind fun bt140 => ((sym_DistOf.f k bt140.1).bind fun bt144 => (if bt140.2.2.2 = 0 then (if bt144.2.2 = 0 then (if bt140.1 < 0 then (wherrylaw05_SymOnce.j1 k x0 x1 x5 bt140.1 true) else (if bt140.1 > 29 then (wherrylaw05_SymOnce.j1 k x0 x1 x5 bt140.1 true) else (if bt140.2.1 = bt144.2.1 then (if bt140.2.2.1 < 0 then (wherrylaw05_SymOnce.j1 k x0 x1 x5 bt140.1 true) else (if 0 ≤ (IntKind.u64.wrap (bt140.2.1)) then (if bt140.2.2.1 ≥ (shl .i64 1 (IntKind.u64.wrap (bt140.2.1))) then (wherrylaw05_SymOnce.j1 k x0 x1 x5 bt140.1 true) else (wherrylaw05_SymOnce.j1 k x0 x1 x5 bt140.1 ((wrap64 (bt144.1 + bt140.2.2.1)) != x1))) else (none))) else (wherrylaw05_SymOnce.j1 k x0 x1 x5 bt140.1 true)))) else (wherrylaw05_SymOnce.j1 k x0 x1 x5 bt140.1 true)) else (wherrylaw05_SymOnce.j1 k x0 x1 x5 bt140.1 true))))
def wherrylaw05_SymOnce.j1 : Nat → Int → Int → Int → Int → Bool → Option (Bool)
  | 0, _, _, _, _, _ => none
  | k + 1, x0, x1, x5, x12, x130 => if x130 = true then (some false) else (if x0 < 258 then ((sym_Len.f k (wrap64 (x0 + 1))).bind fun bt147 => (if bt147.2.2.2 = 0 then (if bt147.1 < x5 then (some false) else (if bt147.1 > (wrap64 (x5 + 1)) then (some false) else (wherrylaw05_SymOnce.j2 k x1 x12))) else (some false))) else (wherrylaw05_SymOnce.j2 k x1 x12))
def wherrylaw05_SymOnce.j2 : Nat → Int → Int → Option (Bool)
  | 0, _, _ => none
  | k + 1, x1, x12 => if x1 < 32768 then ((sym_Dist.f k (wrap64 (x1 + 1))).bind fun bt151 => (if bt151.2.2.2 = 0 then (if bt151.1 < x12 then (some false) else (if bt151.1 > (wrap64 (x12 + 1)) then (some false) else ((wherrylaw05_wakes.f k).bind fun t155 => (some t155)))) else (some false))) else ((wherrylaw05_wakes.f k).bind fun t156 => (some t156))
end
def wherrylaw05_SymOnce.f (k : Nat) (a0 : Int) (a1 : Int) : Option (Bool) := (sym_Len.f k (wrap64 (3 + (wrap64 (Int.tmod (IntKind.u64.wrap (a0)) 256))))).bind fun bt133 => ((sym_LenOf.f k bt133.1).bind fun bt137 => (if bt133.2.2.2 = 0 then (if bt137.2.2 = 0 then (if bt133.1 < 257 then (wherrylaw05_SymOnce.j0 k (wrap64 (3 + (wrap64 (Int.tmod (IntKind.u64.wrap (a0)) 256)))) (wrap64 (1 + (wrap64 (Int.tmod (IntKind.u64.wrap (a1)) 32768)))) bt133.1 true) else (if bt133.1 > 285 then (wherrylaw05_SymOnce.j0 k (wrap64 (3 + (wrap64 (Int.tmod (IntKind.u64.wrap (a0)) 256)))) (wrap64 (1 + (wrap64 (Int.tmod (IntKind.u64.wrap (a1)) 32768)))) bt133.1 true) else (if bt133.2.1 = bt137.2.1 then (if bt133.2.2.1 < 0 then (wherrylaw05_SymOnce.j0 k (wrap64 (3 + (wrap64 (Int.tmod (IntKind.u64.wrap (a0)) 256)))) (wrap64 (1 + (wrap64 (Int.tmod (IntKind.u64.wrap (a1)) 32768)))) bt133.1 true) else (if 0 ≤ (IntKind.u64.wrap (bt133.2.1)) then (if bt133.2.2.1 ≥ (shl .i64 1 (IntKind.u64.wrap (bt133.2.1))) then (wherrylaw05_SymOnce.j0 k (wrap64 (3 + (wrap64 (Int.tmod (IntKind.u64.wrap (a0)) 256)))) (wrap64 (1 + (wrap64 (Int.tmod (IntKind.u64.wrap (a1)) 32768)))) bt133.1 true) else (wherrylaw05_SymOnce.j0 k (wrap64 (3 + (wrap64 (Int.tmod (IntKind.u64.wrap (a0)) 256)))) (wrap64 (1 + (wrap64 (Int.tmod (IntKind.u64.wrap (a1)) 32768)))) bt133.1 ((wrap64 (bt137.1 + bt133.2.2.1)) != (wrap64 (3 + (wrap64 (Int.tmod (IntKind.u64.wrap (a0)) 256))))))) else (none))) else (wherrylaw05_SymOnce.j0 k (wrap64 (3 + (wrap64 (Int.tmod (IntKind.u64.wrap (a0)) 256)))) (wrap64 (1 + (wrap64 (Int.tmod (IntKind.u64.wrap (a1)) 32768)))) bt133.1 true)))) else (wherrylaw05_SymOnce.j0 k (wrap64 (3 + (wrap64 (Int.tmod (IntKind.u64.wrap (a0)) 256)))) (wrap64 (1 + (wrap64 (Int.tmod (IntKind.u64.wrap (a1)) 32768)))) bt133.1 true)) else (wherrylaw05_SymOnce.j0 k (wrap64 (3 + (wrap64 (Int.tmod (IntKind.u64.wrap (a0)) 256)))) (wrap64 (1 + (wrap64 (Int.tmod (IntKind.u64.wrap (a1)) 32768)))) bt133.1 true)))
theorem wherrylaw05_SymOnce.mono_l : ∀ k, (∀ y0 y1 y2 y3, LeO (wherrylaw05_SymOnce.j0 k y0 y1 y2 y3) (wherrylaw05_SymOnce.j0 (k + 1) y0 y1 y2 y3)) ∧ (∀ y0 y1 y2 y3 y4, LeO (wherrylaw05_SymOnce.j1 k y0 y1 y2 y3 y4) (wherrylaw05_SymOnce.j1 (k + 1) y0 y1 y2 y3 y4)) ∧ (∀ y0 y1, LeO (wherrylaw05_SymOnce.j2 k y0 y1) (wherrylaw05_SymOnce.j2 (k + 1) y0 y1))
  | 0 => ⟨fun _ _ _ _ r h => by simp [wherrylaw05_SymOnce.j0] at h, fun _ _ _ _ _ r h => by simp [wherrylaw05_SymOnce.j1] at h, fun _ _ r h => by simp [wherrylaw05_SymOnce.j2] at h⟩
  | k + 1 => by
    obtain ⟨ih0, ih1, ih2⟩ := wherrylaw05_SymOnce.mono_l k
    refine ⟨?_, ?_, ?_⟩
    · intro y0 y1 y2 y3
      unfold wherrylaw05_SymOnce.j0
      repeat' first
      | (with_reducible exact ih0 _ _ _ _)
      | (with_reducible exact ih1 _ _ _ _ _)
      | (with_reducible exact ih2 _ _)
      | (with_reducible exact sym_Dist.mono _ _)
      | (with_reducible exact sym_DistOf.mono _ _)
      | (with_reducible exact sym_Len.mono _ _)
      | (with_reducible exact sym_LenOf.mono _ _)
      | (with_reducible exact wherrylaw05_wakes.mono _)
      | (with_reducible exact LeO.refl _)
      | (with_reducible exact LeO.none _)
      | (with_reducible refine LeO.ite ?_ ?_)
      | (with_reducible refine LeO.bind ?_ (fun _ => ?_))
      | exact ih0 _ _ _ _
      | exact ih1 _ _ _ _ _
      | exact ih2 _ _
      | exact sym_Dist.mono _ _
      | exact sym_DistOf.mono _ _
      | exact sym_Len.mono _ _
      | exact sym_LenOf.mono _ _
      | exact wherrylaw05_wakes.mono _
      | exact LeO.none _
      | refine LeO.ite ?_ ?_
      | refine LeO.bind ?_ (fun _ => ?_)
    · intro y0 y1 y2 y3 y4
      unfold wherrylaw05_SymOnce.j1
      repeat' first
      | (with_reducible exact ih0 _ _ _ _)
      | (with_reducible exact ih1 _ _ _ _ _)
      | (with_reducible exact ih2 _ _)
      | (with_reducible exact sym_Dist.mono _ _)
      | (with_reducible exact sym_DistOf.mono _ _)
      | (with_reducible exact sym_Len.mono _ _)
      | (with_reducible exact sym_LenOf.mono _ _)
      | (with_reducible exact wherrylaw05_wakes.mono _)
      | (with_reducible exact LeO.refl _)
      | (with_reducible exact LeO.none _)
      | (with_reducible refine LeO.ite ?_ ?_)
      | (with_reducible refine LeO.bind ?_ (fun _ => ?_))
      | exact ih0 _ _ _ _
      | exact ih1 _ _ _ _ _
      | exact ih2 _ _
      | exact sym_Dist.mono _ _
      | exact sym_DistOf.mono _ _
      | exact sym_Len.mono _ _
      | exact sym_LenOf.mono _ _
      | exact wherrylaw05_wakes.mono _
      | exact LeO.none _
      | refine LeO.ite ?_ ?_
      | refine LeO.bind ?_ (fun _ => ?_)
    · intro y0 y1
      unfold wherrylaw05_SymOnce.j2
      repeat' first
      | (with_reducible exact ih0 _ _ _ _)
      | (with_reducible exact ih1 _ _ _ _ _)
      | (with_reducible exact ih2 _ _)
      | (with_reducible exact sym_Dist.mono _ _)
      | (with_reducible exact sym_DistOf.mono _ _)
      | (with_reducible exact sym_Len.mono _ _)
      | (with_reducible exact sym_LenOf.mono _ _)
      | (with_reducible exact wherrylaw05_wakes.mono _)
      | (with_reducible exact LeO.refl _)
      | (with_reducible exact LeO.none _)
      | (with_reducible refine LeO.ite ?_ ?_)
      | (with_reducible refine LeO.bind ?_ (fun _ => ?_))
      | exact ih0 _ _ _ _
      | exact ih1 _ _ _ _ _
      | exact ih2 _ _
      | exact sym_Dist.mono _ _
      | exact sym_DistOf.mono _ _
      | exact sym_Len.mono _ _
      | exact sym_LenOf.mono _ _
      | exact wherrylaw05_wakes.mono _
      | exact LeO.none _
      | refine LeO.ite ?_ ?_
      | refine LeO.bind ?_ (fun _ => ?_)
theorem wherrylaw05_SymOnce.mono : ∀ a0 a1 k, LeO (wherrylaw05_SymOnce.f k a0 a1) (wherrylaw05_SymOnce.f (k + 1) a0 a1) := by
  intro a0 a1 k
  obtain ⟨ih0, ih1, ih2⟩ := wherrylaw05_SymOnce.mono_l k
  unfold wherrylaw05_SymOnce.f
  repeat' first
      | (with_reducible exact ih0 _ _ _ _)
      | (with_reducible exact ih1 _ _ _ _ _)
      | (with_reducible exact ih2 _ _)
      | (with_reducible exact sym_Dist.mono _ _)
      | (with_reducible exact sym_DistOf.mono _ _)
      | (with_reducible exact sym_Len.mono _ _)
      | (with_reducible exact sym_LenOf.mono _ _)
      | (with_reducible exact wherrylaw05_wakes.mono _)
      | (with_reducible exact LeO.refl _)
      | (with_reducible exact LeO.none _)
      | (with_reducible refine LeO.ite ?_ ?_)
      | (with_reducible refine LeO.bind ?_ (fun _ => ?_))
      | exact ih0 _ _ _ _
      | exact ih1 _ _ _ _ _
      | exact ih2 _ _
      | exact sym_Dist.mono _ _
      | exact sym_DistOf.mono _ _
      | exact sym_Len.mono _ _
      | exact sym_LenOf.mono _ _
      | exact wherrylaw05_wakes.mono _
      | exact LeO.none _
      | refine LeO.ite ?_ ?_
      | refine LeO.bind ?_ (fun _ => ?_)
set_option maxHeartbeats 8000000 in
set_option maxRecDepth 100000 in
theorem wherrylaw05_SymOnce.calls (k : Nat) (a0 : Int) (a1 : Int) (r : Bool) (w : World) (h : wherrylaw05_SymOnce.f k a0 a1 = some r) :
    Calls Try.prog 3 #[.int .i64 a0, .int .i64 a1] w fun e w' => e = .returned (.bool r) ∧ Below w.heap.size w w' := by
  have HB := Aside0.mk (Below.refl w.heap.size w)
  have H : ((sym_Len.f k (wrap64 (3 + (wrap64 (Int.tmod (IntKind.u64.wrap (a0)) 256))))).bind fun bt133 => ((sym_LenOf.f k bt133.1).bind fun bt137 => (if bt133.2.2.2 = 0 then (if bt137.2.2 = 0 then (if bt133.1 < 257 then (wherrylaw05_SymOnce.j0 k (wrap64 (3 + (wrap64 (Int.tmod (IntKind.u64.wrap (a0)) 256)))) (wrap64 (1 + (wrap64 (Int.tmod (IntKind.u64.wrap (a1)) 32768)))) bt133.1 true) else (if bt133.1 > 285 then (wherrylaw05_SymOnce.j0 k (wrap64 (3 + (wrap64 (Int.tmod (IntKind.u64.wrap (a0)) 256)))) (wrap64 (1 + (wrap64 (Int.tmod (IntKind.u64.wrap (a1)) 32768)))) bt133.1 true) else (if bt133.2.1 = bt137.2.1 then (if bt133.2.2.1 < 0 then (wherrylaw05_SymOnce.j0 k (wrap64 (3 + (wrap64 (Int.tmod (IntKind.u64.wrap (a0)) 256)))) (wrap64 (1 + (wrap64 (Int.tmod (IntKind.u64.wrap (a1)) 32768)))) bt133.1 true) else (if 0 ≤ (IntKind.u64.wrap (bt133.2.1)) then (if bt133.2.2.1 ≥ (shl .i64 1 (IntKind.u64.wrap (bt133.2.1))) then (wherrylaw05_SymOnce.j0 k (wrap64 (3 + (wrap64 (Int.tmod (IntKind.u64.wrap (a0)) 256)))) (wrap64 (1 + (wrap64 (Int.tmod (IntKind.u64.wrap (a1)) 32768)))) bt133.1 true) else (wherrylaw05_SymOnce.j0 k (wrap64 (3 + (wrap64 (Int.tmod (IntKind.u64.wrap (a0)) 256)))) (wrap64 (1 + (wrap64 (Int.tmod (IntKind.u64.wrap (a1)) 32768)))) bt133.1 ((wrap64 (bt137.1 + bt133.2.2.1)) != (wrap64 (3 + (wrap64 (Int.tmod (IntKind.u64.wrap (a0)) 256))))))) else (none))) else (wherrylaw05_SymOnce.j0 k (wrap64 (3 + (wrap64 (Int.tmod (IntKind.u64.wrap (a0)) 256)))) (wrap64 (1 + (wrap64 (Int.tmod (IntKind.u64.wrap (a1)) 32768)))) bt133.1 true)))) else (wherrylaw05_SymOnce.j0 k (wrap64 (3 + (wrap64 (Int.tmod (IntKind.u64.wrap (a0)) 256)))) (wrap64 (1 + (wrap64 (Int.tmod (IntKind.u64.wrap (a1)) 32768)))) bt133.1 true)) else (wherrylaw05_SymOnce.j0 k (wrap64 (3 + (wrap64 (Int.tmod (IntKind.u64.wrap (a0)) 256)))) (wrap64 (1 + (wrap64 (Int.tmod (IntKind.u64.wrap (a1)) 32768)))) bt133.1 true)))) = some r := h
  clear h
  replace H := Option.bind_eq_some_iff.mp H
  obtain ⟨⟨t133, t134, t135, t136⟩, A30, H⟩ := H
  replace H : ((sym_LenOf.f k t133).bind fun bt137 => (if t136 = 0 then (if bt137.2.2 = 0 then (if t133 < 257 then (wherrylaw05_SymOnce.j0 k (wrap64 (3 + (wrap64 (Int.tmod (IntKind.u64.wrap (a0)) 256)))) (wrap64 (1 + (wrap64 (Int.tmod (IntKind.u64.wrap (a1)) 32768)))) t133 true) else (if t133 > 285 then (wherrylaw05_SymOnce.j0 k (wrap64 (3 + (wrap64 (Int.tmod (IntKind.u64.wrap (a0)) 256)))) (wrap64 (1 + (wrap64 (Int.tmod (IntKind.u64.wrap (a1)) 32768)))) t133 true) else (if t134 = bt137.2.1 then (if t135 < 0 then (wherrylaw05_SymOnce.j0 k (wrap64 (3 + (wrap64 (Int.tmod (IntKind.u64.wrap (a0)) 256)))) (wrap64 (1 + (wrap64 (Int.tmod (IntKind.u64.wrap (a1)) 32768)))) t133 true) else (if 0 ≤ (IntKind.u64.wrap (t134)) then (if t135 ≥ (shl .i64 1 (IntKind.u64.wrap (t134))) then (wherrylaw05_SymOnce.j0 k (wrap64 (3 + (wrap64 (Int.tmod (IntKind.u64.wrap (a0)) 256)))) (wrap64 (1 + (wrap64 (Int.tmod (IntKind.u64.wrap (a1)) 32768)))) t133 true) else (wherrylaw05_SymOnce.j0 k (wrap64 (3 + (wrap64 (Int.tmod (IntKind.u64.wrap (a0)) 256)))) (wrap64 (1 + (wrap64 (Int.tmod (IntKind.u64.wrap (a1)) 32768)))) t133 ((wrap64 (bt137.1 + t135)) != (wrap64 (3 + (wrap64 (Int.tmod (IntKind.u64.wrap (a0)) 256))))))) else (none))) else (wherrylaw05_SymOnce.j0 k (wrap64 (3 + (wrap64 (Int.tmod (IntKind.u64.wrap (a0)) 256)))) (wrap64 (1 + (wrap64 (Int.tmod (IntKind.u64.wrap (a1)) 32768)))) t133 true)))) else (wherrylaw05_SymOnce.j0 k (wrap64 (3 + (wrap64 (Int.tmod (IntKind.u64.wrap (a0)) 256)))) (wrap64 (1 + (wrap64 (Int.tmod (IntKind.u64.wrap (a1)) 32768)))) t133 true)) else (wherrylaw05_SymOnce.j0 k (wrap64 (3 + (wrap64 (Int.tmod (IntKind.u64.wrap (a0)) 256)))) (wrap64 (1 + (wrap64 (Int.tmod (IntKind.u64.wrap (a1)) 32768)))) t133 true))) = some r := H
  have A3 := Aside0.mk A30
  clear A30
  replace H := Option.bind_eq_some_iff.mp H
  obtain ⟨⟨t137, t138, t139⟩, A40, H⟩ := H
  replace H : (if t136 = 0 then (if t139 = 0 then (if t133 < 257 then (wherrylaw05_SymOnce.j0 k (wrap64 (3 + (wrap64 (Int.tmod (IntKind.u64.wrap (a0)) 256)))) (wrap64 (1 + (wrap64 (Int.tmod (IntKind.u64.wrap (a1)) 32768)))) t133 true) else (if t133 > 285 then (wherrylaw05_SymOnce.j0 k (wrap64 (3 + (wrap64 (Int.tmod (IntKind.u64.wrap (a0)) 256)))) (wrap64 (1 + (wrap64 (Int.tmod (IntKind.u64.wrap (a1)) 32768)))) t133 true) else (if t134 = t138 then (if t135 < 0 then (wherrylaw05_SymOnce.j0 k (wrap64 (3 + (wrap64 (Int.tmod (IntKind.u64.wrap (a0)) 256)))) (wrap64 (1 + (wrap64 (Int.tmod (IntKind.u64.wrap (a1)) 32768)))) t133 true) else (if 0 ≤ (IntKind.u64.wrap (t134)) then (if t135 ≥ (shl .i64 1 (IntKind.u64.wrap (t134))) then (wherrylaw05_SymOnce.j0 k (wrap64 (3 + (wrap64 (Int.tmod (IntKind.u64.wrap (a0)) 256)))) (wrap64 (1 + (wrap64 (Int.tmod (IntKind.u64.wrap (a1)) 32768)))) t133 true) else (wherrylaw05_SymOnce.j0 k (wrap64 (3 + (wrap64 (Int.tmod (IntKind.u64.wrap (a0)) 256)))) (wrap64 (1 + (wrap64 (Int.tmod (IntKind.u64.wrap (a1)) 32768)))) t133 ((wrap64 (t137 + t135)) != (wrap64 (3 + (wrap64 (Int.tmod (IntKind.u64.wrap (a0)) 256))))))) else (none))) else (wherrylaw05_SymOnce.j0 k (wrap64 (3 + (wrap64 (Int.tmod (IntKind.u64.wrap (a0)) 256)))) (wrap64 (1 + (wrap64 (Int.tmod (IntKind.u64.wrap (a1)) 32768)))) t133 true)))) else (wherrylaw05_SymOnce.j0 k (wrap64 (3 + (wrap64 (Int.tmod (IntKind.u64.wrap (a0)) 256)))) (wrap64 (1 + (wrap64 (Int.tmod (IntKind.u64.wrap (a1)) 32768)))) t133 true)) else (wherrylaw05_SymOnce.j0 k (wrap64 (3 + (wrap64 (Int.tmod (IntKind.u64.wrap (a0)) 256)))) (wrap64 (1 + (wrap64 (Int.tmod (IntKind.u64.wrap (a1)) 32768)))) t133 true)) = some r := H
  have A4 := Aside0.mk A40
  clear A40
  have HC5 := Aside0.mk H
  clear H
  go_enter Try.func3, Try.ntmps3
  go_upto_region 4 with (first | ((with_reducible refine gate_callee (f := 9) rfl ?_); refine goesL_ (some 33) rfl rfl Try.func9 (by kernel_rfl) rfl #[.int .i64 (wrap64 (3 + (wrap64 (Int.tmod (IntKind.u64.wrap (a0)) 256))))] rfl (by (try simp only [List.map_toArray, List.map_cons, List.map_nil]); first | done | rfl | (simp only [List.length_drop, List.length_take]; rfl)) ?_; (with_reducible refine (sym_Len.calls k (wrap64 (3 + (wrap64 (Int.tmod (IntKind.u64.wrap (a0)) 256)))) t133 t134 t135 t136 _ A3.out).mono ?_); rintro e w6 ⟨rfl, hb⟩; refine ⟨_, rfl, ?_⟩; have n0_ := Aside0.mk (below_step (by repeat (first | (with_reducible first | exact HB.out | apply below_alloc | apply pw_below_drewN | apply below_drew1) | exact HB.out)) hb); clear HB; have HB := n0_; clear n0_; (try clear hb); (try clear hb2); (try clear hk); (try clear hi)) | ((with_reducible refine gate_callee (f := 10) rfl ?_); refine goesL_ (some 40) rfl rfl Try.func10 (by kernel_rfl) rfl #[.int .i64 t133] rfl (by (try simp only [List.map_toArray, List.map_cons, List.map_nil]); first | done | rfl | (simp only [List.length_drop, List.length_take]; rfl)) ?_; (with_reducible refine (sym_LenOf.calls k t133 t137 t138 t139 _ A4.out).mono ?_); rintro e w7 ⟨rfl, hb⟩; refine ⟨_, rfl, ?_⟩; have n0_ := Aside0.mk (below_step (by repeat (first | (with_reducible first | exact HB.out | apply below_alloc | apply pw_below_drewN | apply below_drew1) | exact HB.out)) hb); clear HB; have HB := n0_; clear n0_; (try clear hb); (try clear hb2); (try clear hk); (try clear hi)))
  (try simp only [Act.put, List.setIfInBounds_toArray, List.set_cons_zero, List.set_cons_succ])
  go_cut [80] (fun v80 wc => ∃ (kq : Nat) (x80_4 : Bool), v80 = .bool x80_4 ∧ Aside0 (wherrylaw05_SymOnce.j0 kq (wrap64 (3 + (wrap64 (Int.tmod (IntKind.u64.wrap (a0)) 256)))) (wrap64 (1 + (wrap64 (Int.tmod (IntKind.u64.wrap (a1)) 32768)))) t133 x80_4 = some r) ∧ Aside0 (kq ≤ k) ∧ Aside0 (Below w.heap.size w wc))
  case first =>
    have H := HC5.out
    clear HC5
    by_cases c8 : t136 = 0
    · rw [if_pos c8] at H
      have c8b0 : (t136 == 0) = true := beq_iff_eq.mpr c8
      have c8b1 : (t136 != 0) = false := bne_eq_false_iff_eq.mpr c8
      clear c8
      (first | rw [c8b0] | (simp only [i64_w, i32_w]; rw [c8b0]) | skip)
      by_cases c9 : t139 = 0
      · rw [if_pos c9] at H
        have c9b0 : (t139 == 0) = true := beq_iff_eq.mpr c9
        have c9b1 : (t139 != 0) = false := bne_eq_false_iff_eq.mpr c9
        clear c9
        by_cases c10 : t133 < 257
        · rw [if_pos c10] at H
          have c10b0 : decide (t133 < 257) = true := decide_eq_true c10
          clear c10
          have H' := Aside0.mk H
          clear H
          go_wp2
          go_meet
          case rel => exact ⟨_, (true), (by first | rfl | (simp; done) | (simp [*]; done)), H', ⟨by first | omega | exact Nat.le_refl _⟩, ⟨by repeat (first | (with_reducible first | exact HB.out | apply below_alloc | apply pw_below_drewN | apply below_drew1) | exact HB.out)⟩⟩
        · rw [if_neg c10] at H
          have c10b0 : decide (t133 < 257) = false := decide_eq_false c10
          clear c10
          by_cases c11 : t133 > 285
          · rw [if_pos c11] at H
            have c11b0 : decide (285 < t133) = true := decide_eq_true c11
            clear c11
            have H' := Aside0.mk H
            clear H
            go_wp2
            go_meet
            case rel => exact ⟨_, (true), (by first | rfl | (simp; done) | (simp [*]; done)), H', ⟨by first | omega | exact Nat.le_refl _⟩, ⟨by repeat (first | (with_reducible first | exact HB.out | apply below_alloc | apply pw_below_drewN | apply below_drew1) | exact HB.out)⟩⟩
          · rw [if_neg c11] at H
            have c11b0 : decide (285 < t133) = false := decide_eq_false c11
            clear c11
            by_cases c12 : t134 = t138
            · rw [if_pos c12] at H
              have c12b0 : (t134 == t138) = true := beq_iff_eq.mpr c12
              have c12b1 : (t134 != t138) = false := bne_eq_false_iff_eq.mpr c12
              clear c12
              by_cases c13 : t135 < 0
              · rw [if_pos c13] at H
                have c13b0 : decide (t135 < 0) = true := decide_eq_true c13
                clear c13
                have H' := Aside0.mk H
                clear H
                go_wp2
                go_meet
                case rel => exact ⟨_, (true), (by first | rfl | (simp; done) | (simp [*]; done)), H', ⟨by first | omega | exact Nat.le_refl _⟩, ⟨by repeat (first | (with_reducible first | exact HB.out | apply below_alloc | apply pw_below_drewN | apply below_drew1) | exact HB.out)⟩⟩
              · rw [if_neg c13] at H
                have c13b0 : decide (t135 < 0) = false := decide_eq_false c13
                clear c13
                obtain ⟨ji14, hji14⟩ : ∃ j_ : Int, (IntKind.u64.wrap (t134)) = j_ := ⟨_, rfl⟩
                replace H : (if 0 ≤ (ji14) then (if t135 ≥ (shl .i64 1 (ji14)) then (wherrylaw05_SymOnce.j0 k (wrap64 (3 + (wrap64 (Int.tmod (IntKind.u64.wrap (a0)) 256)))) (wrap64 (1 + (wrap64 (Int.tmod (IntKind.u64.wrap (a1)) 32768)))) t133 true) else (wherrylaw05_SymOnce.j0 k (wrap64 (3 + (wrap64 (Int.tmod (IntKind.u64.wrap (a0)) 256)))) (wrap64 (1 + (wrap64 (Int.tmod (IntKind.u64.wrap (a1)) 32768)))) t133 ((wrap64 (t137 + t135)) != (wrap64 (3 + (wrap64 (Int.tmod (IntKind.u64.wrap (a0)) 256))))))) else (none)) = some r := by first | (rw [hji14] at H; exact H) | (simp only [hji14] at H ⊢; exact H)
                by_cases c15 : 0 ≤ (ji14)
                · rw [if_pos c15] at H
                  have c15b0 := eq_true c15
                  have c15b1 : decide (0 ≤ (ji14)) = true := decide_eq_true c15
                  clear c15
                  obtain ⟨ji16, hji16⟩ : ∃ j_ : Int, (shl .i64 1 (ji14)) = j_ := ⟨_, rfl⟩
                  replace H : (if t135 ≥ (ji16) then (wherrylaw05_SymOnce.j0 k (wrap64 (3 + (wrap64 (Int.tmod (IntKind.u64.wrap (a0)) 256)))) (wrap64 (1 + (wrap64 (Int.tmod (IntKind.u64.wrap (a1)) 32768)))) t133 true) else (wherrylaw05_SymOnce.j0 k (wrap64 (3 + (wrap64 (Int.tmod (IntKind.u64.wrap (a0)) 256)))) (wrap64 (1 + (wrap64 (Int.tmod (IntKind.u64.wrap (a1)) 32768)))) t133 ((wrap64 (t137 + t135)) != (wrap64 (3 + (wrap64 (Int.tmod (IntKind.u64.wrap (a0)) 256))))))) = some r := by first | (rw [hji16] at H; exact H) | (simp only [hji16] at H ⊢; exact H)
                  have hji16_ : (IntKind.i64.wrap (1 * 2 ^ min (ji14).toNat 64)) = ji16 := hji16
                  have hji16z : (ji14) ≤ 64 → (IntKind.i64.wrap (1 * 2 ^ (ji14).toNat)) = ji16 := shl_small hji16
                  have hji16u : (IntKind.i64.wrap (2 ^ min (ji14).toNat 64)) = ji16 := by have h_ := hji16_; rw [Int.one_mul] at h_; exact h_
                  have hji16v : (ji14) ≤ 64 → (IntKind.i64.wrap (2 ^ (ji14).toNat)) = ji16 := fun hle_ => by have h_ := hji16z hle_; rw [Int.one_mul] at h_; exact h_
                  have hji16y : (wrap64 (1 * 2 ^ min (ji14).toNat 64)) = ji16 := (i64_w _).symm.trans hji16_
                  have hji16x : (ji14) ≤ 64 → (wrap64 (1 * 2 ^ (ji14).toNat)) = ji16 := fun h_ => (i64_w _).symm.trans (hji16z h_)
                  by_cases c17 : t135 ≥ (ji16)
                  · rw [if_pos c17] at H
                    have c17b0 : decide ((ji16) ≤ t135) = true := decide_eq_true c17
                    clear c17
                    have H' := Aside0.mk H
                    clear H
                    go_wp2
                    go_meet
                    case rel => exact ⟨_, (true), (by first | rfl | (simp; done) | (simp [*]; done)), H', ⟨by first | omega | exact Nat.le_refl _⟩, ⟨by repeat (first | (with_reducible first | exact HB.out | apply below_alloc | apply pw_below_drewN | apply below_drew1) | exact HB.out)⟩⟩
                  · rw [if_neg c17] at H
                    have c17b0 : decide ((ji16) ≤ t135) = false := decide_eq_false c17
                    clear c17
                    have H' := Aside0.mk H
                    clear H
                    go_wp2
                    go_meet
                    case rel => exact ⟨_, (((wrap64 (t137 + t135)) != (wrap64 (3 + (wrap64 (Int.tmod (IntKind.u64.wrap (a0)) 256)))))), (by first | rfl | (simp; done) | (simp [*]; done)), H', ⟨by first | omega | exact Nat.le_refl _⟩, ⟨by repeat (first | (with_reducible first | exact HB.out | apply below_alloc | apply pw_below_drewN | apply below_drew1) | exact HB.out)⟩⟩
                · rw [if_neg c15] at H
                  exact absurd H (by simp)
            · rw [if_neg c12] at H
              have c12b0 : (t134 == t138) = false := beq_eq_false_iff_ne.mpr c12
              have c12b1 : (t134 != t138) = true := bne_iff_ne.mpr c12
              have H' := Aside0.mk H
              clear H
              go_wp2
              go_meet
              case rel => exact ⟨_, (true), (by first | rfl | (simp; done) | (simp [*]; done)), H', ⟨by first | omega | exact Nat.le_refl _⟩, ⟨by repeat (first | (with_reducible first | exact HB.out | apply below_alloc | apply pw_below_drewN | apply below_drew1) | exact HB.out)⟩⟩
      · rw [if_neg c9] at H
        have c9b0 : (t139 == 0) = false := beq_eq_false_iff_ne.mpr c9
        have c9b1 : (t139 != 0) = true := bne_iff_ne.mpr c9
        have H' := Aside0.mk H
        clear H
        go_wp2
        go_meet
        case rel => exact ⟨_, (true), (by first | rfl | (simp; done) | (simp [*]; done)), H', ⟨by first | omega | exact Nat.le_refl _⟩, ⟨by repeat (first | (with_reducible first | exact HB.out | apply below_alloc | apply pw_below_drewN | apply below_drew1) | exact HB.out)⟩⟩
    · rw [if_neg c8] at H
      have c8b0 : (t136 == 0) = false := beq_eq_false_iff_ne.mpr c8
      have c8b1 : (t136 != 0) = true := bne_iff_ne.mpr c8
      (first | rw [c8b0] | (simp only [i64_w, i32_w]; rw [c8b0]) | skip)
      have H' := Aside0.mk H
      clear H
      go_wp2
      go_meet
      case rel => exact ⟨_, (true), (by first | rfl | (simp; done) | (simp [*]; done)), H', ⟨by first | omega | exact Nat.le_refl _⟩, ⟨by repeat (first | (with_reducible first | exact HB.out | apply below_alloc | apply pw_below_drewN | apply below_drew1) | exact HB.out)⟩⟩
  case rest =>
    clear HC5
    try clear c1
    try clear p2
    try clear c3
    try clear p6
    try clear c8
    try clear c8b0
    try clear c8b1
    try clear c9
    try clear c9b0
    try clear c9b1
    try clear c10
    try clear c10b0
    try clear c11
    try clear c11b0
    try clear c12
    try clear c12b0
    try clear c12b1
    try clear c13
    try clear c13b0
    try clear c15
    try clear c15b0
    try clear c15b1
    try clear c17
    try clear c17b0
    obtain ⟨kq, x80_4, rfl, HA, HJ4, HB⟩ := hcut
    cases kq with
    | zero => exact absurd HA.out (by simp [wherrylaw05_SymOnce.j0])
    | succ kj4 =>
      have H := HA.out
      clear HA
      simp only [wherrylaw05_SymOnce.j0] at H
      by_cases c18 : x80_4 = true
      · subst c18
        have H1 : (some false) = some r := by rw [if_pos rfl] at H; exact H
        clear H
        have H := H1
        clear H1
        obtain rfl := Option.some.inj H
        go_wp2
        go_ret
        exact ⟨by first | rfl | (simp [errW_none, errW_some] <;> rfl) | (simp [*, errW_none, errW_some] <;> rfl), by repeat (first | (with_reducible first | exact HB.out | apply below_alloc | apply pw_below_drewN | apply below_drew1) | exact HB.out)⟩
      · replace c18 := Bool.eq_false_iff.mpr c18
        subst c18
        have H1 : ((sym_Dist.f kj4 (wrap64 (1 + (wrap64 (Int.tmod (IntKind.u64.wrap (a1)) 32768))))).bind fun bt140 => ((sym_DistOf.f kj4 bt140.1).bind fun bt144 => (if bt140.2.2.2 = 0 then (if bt144.2.2 = 0 then (if bt140.1 < 0 then (wherrylaw05_SymOnce.j1 kj4 (wrap64 (3 + (wrap64 (Int.tmod (IntKind.u64.wrap (a0)) 256)))) (wrap64 (1 + (wrap64 (Int.tmod (IntKind.u64.wrap (a1)) 32768)))) t133 bt140.1 true) else (if bt140.1 > 29 then (wherrylaw05_SymOnce.j1 kj4 (wrap64 (3 + (wrap64 (Int.tmod (IntKind.u64.wrap (a0)) 256)))) (wrap64 (1 + (wrap64 (Int.tmod (IntKind.u64.wrap (a1)) 32768)))) t133 bt140.1 true) else (if bt140.2.1 = bt144.2.1 then (if bt140.2.2.1 < 0 then (wherrylaw05_SymOnce.j1 kj4 (wrap64 (3 + (wrap64 (Int.tmod (IntKind.u64.wrap (a0)) 256)))) (wrap64 (1 + (wrap64 (Int.tmod (IntKind.u64.wrap (a1)) 32768)))) t133 bt140.1 true) else (if 0 ≤ (IntKind.u64.wrap (bt140.2.1)) then (if bt140.2.2.1 ≥ (shl .i64 1 (IntKind.u64.wrap (bt140.2.1))) then (wherrylaw05_SymOnce.j1 kj4 (wrap64 (3 + (wrap64 (Int.tmod (IntKind.u64.wrap (a0)) 256)))) (wrap64 (1 + (wrap64 (Int.tmod (IntKind.u64.wrap (a1)) 32768)))) t133 bt140.1 true) else (wherrylaw05_SymOnce.j1 kj4 (wrap64 (3 + (wrap64 (Int.tmod (IntKind.u64.wrap (a0)) 256)))) (wrap64 (1 + (wrap64 (Int.tmod (IntKind.u64.wrap (a1)) 32768)))) t133 bt140.1 ((wrap64 (bt144.1 + bt140.2.2.1)) != (wrap64 (1 + (wrap64 (Int.tmod (IntKind.u64.wrap (a1)) 32768))))))) else (none))) else (wherrylaw05_SymOnce.j1 kj4 (wrap64 (3 + (wrap64 (Int.tmod (IntKind.u64.wrap (a0)) 256)))) (wrap64 (1 + (wrap64 (Int.tmod (IntKind.u64.wrap (a1)) 32768)))) t133 bt140.1 true)))) else (wherrylaw05_SymOnce.j1 kj4 (wrap64 (3 + (wrap64 (Int.tmod (IntKind.u64.wrap (a0)) 256)))) (wrap64 (1 + (wrap64 (Int.tmod (IntKind.u64.wrap (a1)) 32768)))) t133 bt140.1 true)) else (wherrylaw05_SymOnce.j1 kj4 (wrap64 (3 + (wrap64 (Int.tmod (IntKind.u64.wrap (a0)) 256)))) (wrap64 (1 + (wrap64 (Int.tmod (IntKind.u64.wrap (a1)) 32768)))) t133 bt140.1 true)))) = some r := by rw [if_neg (show ¬ (false = true) by decide)] at H; exact H
        clear H
        have H := H1
        clear H1
        replace H := Option.bind_eq_some_iff.mp H
        obtain ⟨⟨t140, t141, t142, t143⟩, A190, H⟩ := H
        replace H : ((sym_DistOf.f kj4 t140).bind fun bt144 => (if t143 = 0 then (if bt144.2.2 = 0 then (if t140 < 0 then (wherrylaw05_SymOnce.j1 kj4 (wrap64 (3 + (wrap64 (Int.tmod (IntKind.u64.wrap (a0)) 256)))) (wrap64 (1 + (wrap64 (Int.tmod (IntKind.u64.wrap (a1)) 32768)))) t133 t140 true) else (if t140 > 29 then (wherrylaw05_SymOnce.j1 kj4 (wrap64 (3 + (wrap64 (Int.tmod (IntKind.u64.wrap (a0)) 256)))) (wrap64 (1 + (wrap64 (Int.tmod (IntKind.u64.wrap (a1)) 32768)))) t133 t140 true) else (if t141 = bt144.2.1 then (if t142 < 0 then (wherrylaw05_SymOnce.j1 kj4 (wrap64 (3 + (wrap64 (Int.tmod (IntKind.u64.wrap (a0)) 256)))) (wrap64 (1 + (wrap64 (Int.tmod (IntKind.u64.wrap (a1)) 32768)))) t133 t140 true) else (if 0 ≤ (IntKind.u64.wrap (t141)) then (if t142 ≥ (shl .i64 1 (IntKind.u64.wrap (t141))) then (wherrylaw05_SymOnce.j1 kj4 (wrap64 (3 + (wrap64 (Int.tmod (IntKind.u64.wrap (a0)) 256)))) (wrap64 (1 + (wrap64 (Int.tmod (IntKind.u64.wrap (a1)) 32768)))) t133 t140 true) else (wherrylaw05_SymOnce.j1 kj4 (wrap64 (3 + (wrap64 (Int.tmod (IntKind.u64.wrap (a0)) 256)))) (wrap64 (1 + (wrap64 (Int.tmod (IntKind.u64.wrap (a1)) 32768)))) t133 t140 ((wrap64 (bt144.1 + t142)) != (wrap64 (1 + (wrap64 (Int.tmod (IntKind.u64.wrap (a1)) 32768))))))) else (none))) else (wherrylaw05_SymOnce.j1 kj4 (wrap64 (3 + (wrap64 (Int.tmod (IntKind.u64.wrap (a0)) 256)))) (wrap64 (1 + (wrap64 (Int.tmod (IntKind.u64.wrap (a1)) 32768)))) t133 t140 true)))) else (wherrylaw05_SymOnce.j1 kj4 (wrap64 (3 + (wrap64 (Int.tmod (IntKind.u64.wrap (a0)) 256)))) (wrap64 (1 + (wrap64 (Int.tmod (IntKind.u64.wrap (a1)) 32768)))) t133 t140 true)) else (wherrylaw05_SymOnce.j1 kj4 (wrap64 (3 + (wrap64 (Int.tmod (IntKind.u64.wrap (a0)) 256)))) (wrap64 (1 + (wrap64 (Int.tmod (IntKind.u64.wrap (a1)) 32768)))) t133 t140 true))) = some r := H
        have A19 := Aside0.mk A190
        clear A190
        replace H := Option.bind_eq_some_iff.mp H
        obtain ⟨⟨t144, t145, t146⟩, A200, H⟩ := H
        replace H : (if t143 = 0 then (if t146 = 0 then (if t140 < 0 then (wherrylaw05_SymOnce.j1 kj4 (wrap64 (3 + (wrap64 (Int.tmod (IntKind.u64.wrap (a0)) 256)))) (wrap64 (1 + (wrap64 (Int.tmod (IntKind.u64.wrap (a1)) 32768)))) t133 t140 true) else (if t140 > 29 then (wherrylaw05_SymOnce.j1 kj4 (wrap64 (3 + (wrap64 (Int.tmod (IntKind.u64.wrap (a0)) 256)))) (wrap64 (1 + (wrap64 (Int.tmod (IntKind.u64.wrap (a1)) 32768)))) t133 t140 true) else (if t141 = t145 then (if t142 < 0 then (wherrylaw05_SymOnce.j1 kj4 (wrap64 (3 + (wrap64 (Int.tmod (IntKind.u64.wrap (a0)) 256)))) (wrap64 (1 + (wrap64 (Int.tmod (IntKind.u64.wrap (a1)) 32768)))) t133 t140 true) else (if 0 ≤ (IntKind.u64.wrap (t141)) then (if t142 ≥ (shl .i64 1 (IntKind.u64.wrap (t141))) then (wherrylaw05_SymOnce.j1 kj4 (wrap64 (3 + (wrap64 (Int.tmod (IntKind.u64.wrap (a0)) 256)))) (wrap64 (1 + (wrap64 (Int.tmod (IntKind.u64.wrap (a1)) 32768)))) t133 t140 true) else (wherrylaw05_SymOnce.j1 kj4 (wrap64 (3 + (wrap64 (Int.tmod (IntKind.u64.wrap (a0)) 256)))) (wrap64 (1 + (wrap64 (Int.tmod (IntKind.u64.wrap (a1)) 32768)))) t133 t140 ((wrap64 (t144 + t142)) != (wrap64 (1 + (wrap64 (Int.tmod (IntKind.u64.wrap (a1)) 32768))))))) else (none))) else (wherrylaw05_SymOnce.j1 kj4 (wrap64 (3 + (wrap64 (Int.tmod (IntKind.u64.wrap (a0)) 256)))) (wrap64 (1 + (wrap64 (Int.tmod (IntKind.u64.wrap (a1)) 32768)))) t133 t140 true)))) else (wherrylaw05_SymOnce.j1 kj4 (wrap64 (3 + (wrap64 (Int.tmod (IntKind.u64.wrap (a0)) 256)))) (wrap64 (1 + (wrap64 (Int.tmod (IntKind.u64.wrap (a1)) 32768)))) t133 t140 true)) else (wherrylaw05_SymOnce.j1 kj4 (wrap64 (3 + (wrap64 (Int.tmod (IntKind.u64.wrap (a0)) 256)))) (wrap64 (1 + (wrap64 (Int.tmod (IntKind.u64.wrap (a1)) 32768)))) t133 t140 true)) = some r := H
        have A20 := Aside0.mk A200
        clear A200
        have HC21 := Aside0.mk H
        clear H
        go_upto_region 8 with (first | ((with_reducible refine gate_callee (f := 11) rfl ?_); refine goesL_ (some 83) rfl rfl Try.func11 (by kernel_rfl) rfl #[.int .i64 (wrap64 (1 + (wrap64 (Int.tmod (IntKind.u64.wrap (a1)) 32768))))] rfl (by (try simp only [List.map_toArray, List.map_cons, List.map_nil]); first | done | rfl | (simp only [List.length_drop, List.length_take]; rfl)) ?_; (with_reducible refine (sym_Dist.calls kj4 (wrap64 (1 + (wrap64 (Int.tmod (IntKind.u64.wrap (a1)) 32768)))) t140 t141 t142 t143 _ A19.out).mono ?_); rintro e w22 ⟨rfl, hb⟩; refine ⟨_, rfl, ?_⟩; have n0_ := Aside0.mk (below_step (by repeat (first | (with_reducible first | exact HB.out | apply below_alloc | apply pw_below_drewN | apply below_drew1) | exact HB.out)) hb); clear HB; have HB := n0_; clear n0_; (try clear hb); (try clear hb2); (try clear hk); (try clear hi)) | ((with_reducible refine gate_callee (f := 12) rfl ?_); refine goesL_ (some 90) rfl rfl Try.func12 (by kernel_rfl) rfl #[.int .i64 t140] rfl (by (try simp only [List.map_toArray, List.map_cons, List.map_nil]); first | done | rfl | (simp only [List.length_drop, List.length_take]; rfl)) ?_; (with_reducible refine (sym_DistOf.calls kj4 t140 t144 t145 t146 _ A20.out).mono ?_); rintro e w23 ⟨rfl, hb⟩; refine ⟨_, rfl, ?_⟩; have n0_ := Aside0.mk (below_step (by repeat (first | (with_reducible first | exact HB.out | apply below_alloc | apply pw_below_drewN | apply below_drew1) | exact HB.out)) hb); clear HB; have HB := n0_; clear n0_; (try clear hb); (try clear hb2); (try clear hk); (try clear hi)))
        (try simp only [Act.put, List.setIfInBounds_toArray, List.set_cons_zero, List.set_cons_succ])
        go_cut [130] (fun v130 wc => ∃ (kq : Nat) (x130_20 : Bool), v130 = .bool x130_20 ∧ Aside0 (wherrylaw05_SymOnce.j1 kq (wrap64 (3 + (wrap64 (Int.tmod (IntKind.u64.wrap (a0)) 256)))) (wrap64 (1 + (wrap64 (Int.tmod (IntKind.u64.wrap (a1)) 32768)))) t133 t140 x130_20 = some r) ∧ Aside0 (kq ≤ kj4) ∧ Aside0 (Below w.heap.size w wc))
        case first =>
          have H := HC21.out
          clear HC21
          by_cases c24 : t143 = 0
          · rw [if_pos c24] at H
            have c24b0 : (t143 == 0) = true := beq_iff_eq.mpr c24
            have c24b1 : (t143 != 0) = false := bne_eq_false_iff_eq.mpr c24
            clear c24
            (first | rw [c24b0] | (simp only [i64_w, i32_w]; rw [c24b0]) | skip)
            by_cases c25 : t146 = 0
            · rw [if_pos c25] at H
              have c25b0 : (t146 == 0) = true := beq_iff_eq.mpr c25
              have c25b1 : (t146 != 0) = false := bne_eq_false_iff_eq.mpr c25
              clear c25
              by_cases c26 : t140 < 0
              · rw [if_pos c26] at H
                have c26b0 : decide (t140 < 0) = true := decide_eq_true c26
                clear c26
                have H' := Aside0.mk H
                clear H
                go_wp2
                go_meet
                case rel => exact ⟨_, (true), (by first | rfl | (simp; done) | (simp [*]; done)), H', ⟨by have := HJ4.out; first | omega | exact Nat.le_refl _⟩, ⟨by repeat (first | (with_reducible first | exact HB.out | apply below_alloc | apply pw_below_drewN | apply below_drew1) | exact HB.out)⟩⟩
              · rw [if_neg c26] at H
                have c26b0 : decide (t140 < 0) = false := decide_eq_false c26
                clear c26
                by_cases c27 : t140 > 29
                · rw [if_pos c27] at H
                  have c27b0 : decide (29 < t140) = true := decide_eq_true c27
                  clear c27
                  have H' := Aside0.mk H
                  clear H
                  go_wp2
                  go_meet
                  case rel => exact ⟨_, (true), (by first | rfl | (simp; done) | (simp [*]; done)), H', ⟨by have := HJ4.out; first | omega | exact Nat.le_refl _⟩, ⟨by repeat (first | (with_reducible first | exact HB.out | apply below_alloc | apply pw_below_drewN | apply below_drew1) | exact HB.out)⟩⟩
                · rw [if_neg c27] at H
                  have c27b0 : decide (29 < t140) = false := decide_eq_false c27
                  clear c27
                  by_cases c28 : t141 = t145
                  · rw [if_pos c28] at H
                    have c28b0 : (t141 == t145) = true := beq_iff_eq.mpr c28
                    have c28b1 : (t141 != t145) = false := bne_eq_false_iff_eq.mpr c28
                    clear c28
                    by_cases c29 : t142 < 0
                    · rw [if_pos c29] at H
                      have c29b0 : decide (t142 < 0) = true := decide_eq_true c29
                      clear c29
                      have H' := Aside0.mk H
                      clear H
                      go_wp2
                      go_meet
                      case rel => exact ⟨_, (true), (by first | rfl | (simp; done) | (simp [*]; done)), H', ⟨by have := HJ4.out; first | omega | exact Nat.le_refl _⟩, ⟨by repeat (first | (with_reducible first | exact HB.out | apply below_alloc | apply pw_below_drewN | apply below_drew1) | exact HB.out)⟩⟩
                    · rw [if_neg c29] at H
                      have c29b0 : decide (t142 < 0) = false := decide_eq_false c29
                      clear c29
                      obtain ⟨ji30, hji30⟩ : ∃ j_ : Int, (IntKind.u64.wrap (t141)) = j_ := ⟨_, rfl⟩
                      replace H : (if 0 ≤ (ji30) then (if t142 ≥ (shl .i64 1 (ji30)) then (wherrylaw05_SymOnce.j1 kj4 (wrap64 (3 + (wrap64 (Int.tmod (IntKind.u64.wrap (a0)) 256)))) (wrap64 (1 + (wrap64 (Int.tmod (IntKind.u64.wrap (a1)) 32768)))) t133 t140 true) else (wherrylaw05_SymOnce.j1 kj4 (wrap64 (3 + (wrap64 (Int.tmod (IntKind.u64.wrap (a0)) 256)))) (wrap64 (1 + (wrap64 (Int.tmod (IntKind.u64.wrap (a1)) 32768)))) t133 t140 ((wrap64 (t144 + t142)) != (wrap64 (1 + (wrap64 (Int.tmod (IntKind.u64.wrap (a1)) 32768))))))) else (none)) = some r := by first | (rw [hji30] at H; exact H) | (simp only [hji30] at H ⊢; exact H)
                      by_cases c31 : 0 ≤ (ji30)
                      · rw [if_pos c31] at H
                        have c31b0 := eq_true c31
                        have c31b1 : decide (0 ≤ (ji30)) = true := decide_eq_true c31
                        clear c31
                        obtain ⟨ji32, hji32⟩ : ∃ j_ : Int, (shl .i64 1 (ji30)) = j_ := ⟨_, rfl⟩
                        replace H : (if t142 ≥ (ji32) then (wherrylaw05_SymOnce.j1 kj4 (wrap64 (3 + (wrap64 (Int.tmod (IntKind.u64.wrap (a0)) 256)))) (wrap64 (1 + (wrap64 (Int.tmod (IntKind.u64.wrap (a1)) 32768)))) t133 t140 true) else (wherrylaw05_SymOnce.j1 kj4 (wrap64 (3 + (wrap64 (Int.tmod (IntKind.u64.wrap (a0)) 256)))) (wrap64 (1 + (wrap64 (Int.tmod (IntKind.u64.wrap (a1)) 32768)))) t133 t140 ((wrap64 (t144 + t142)) != (wrap64 (1 + (wrap64 (Int.tmod (IntKind.u64.wrap (a1)) 32768))))))) = some r := by first | (rw [hji32] at H; exact H) | (simp only [hji32] at H ⊢; exact H)
                        have hji32_ : (IntKind.i64.wrap (1 * 2 ^ min (ji30).toNat 64)) = ji32 := hji32
                        have hji32z : (ji30) ≤ 64 → (IntKind.i64.wrap (1 * 2 ^ (ji30).toNat)) = ji32 := shl_small hji32
                        have hji32u : (IntKind.i64.wrap (2 ^ min (ji30).toNat 64)) = ji32 := by have h_ := hji32_; rw [Int.one_mul] at h_; exact h_
                        have hji32v : (ji30) ≤ 64 → (IntKind.i64.wrap (2 ^ (ji30).toNat)) = ji32 := fun hle_ => by have h_ := hji32z hle_; rw [Int.one_mul] at h_; exact h_
                        have hji32y : (wrap64 (1 * 2 ^ min (ji30).toNat 64)) = ji32 := (i64_w _).symm.trans hji32_
                        have hji32x : (ji30) ≤ 64 → (wrap64 (1 * 2 ^ (ji30).toNat)) = ji32 := fun h_ => (i64_w _).symm.trans (hji32z h_)
                        by_cases c33 : t142 ≥ (ji32)
                        · rw [if_pos c33] at H
                          have c33b0 : decide ((ji32) ≤ t142) = true := decide_eq_true c33
                          clear c33
                          have H' := Aside0.mk H
                          clear H
                          go_wp2
                          go_meet
                          case rel => exact ⟨_, (true), (by first | rfl | (simp; done) | (simp [*]; done)), H', ⟨by have := HJ4.out; first | omega | exact Nat.le_refl _⟩, ⟨by repeat (first | (with_reducible first | exact HB.out | apply below_alloc | apply pw_below_drewN | apply below_drew1) | exact HB.out)⟩⟩
                        · rw [if_neg c33] at H
                          have c33b0 : decide ((ji32) ≤ t142) = false := decide_eq_false c33
                          clear c33
                          have H' := Aside0.mk H
                          clear H
                          go_wp2
                          go_meet
                          case rel => exact ⟨_, (((wrap64 (t144 + t142)) != (wrap64 (1 + (wrap64 (Int.tmod (IntKind.u64.wrap (a1)) 32768)))))), (by first | rfl | (simp; done) | (simp [*]; done)), H', ⟨by have := HJ4.out; first | omega | exact Nat.le_refl _⟩, ⟨by repeat (first | (with_reducible first | exact HB.out | apply below_alloc | apply pw_below_drewN | apply below_drew1) | exact HB.out)⟩⟩
                      · rw [if_neg c31] at H
                        exact absurd H (by simp)
                  · rw [if_neg c28] at H
                    have c28b0 : (t141 == t145) = false := beq_eq_false_iff_ne.mpr c28
                    have c28b1 : (t141 != t145) = true := bne_iff_ne.mpr c28
                    have H' := Aside0.mk H
                    clear H
                    go_wp2
                    go_meet
                    case rel => exact ⟨_, (true), (by first | rfl | (simp; done) | (simp [*]; done)), H', ⟨by have := HJ4.out; first | omega | exact Nat.le_refl _⟩, ⟨by repeat (first | (with_reducible first | exact HB.out | apply below_alloc | apply pw_below_drewN | apply below_drew1) | exact HB.out)⟩⟩
            · rw [if_neg c25] at H
              have c25b0 : (t146 == 0) = false := beq_eq_false_iff_ne.mpr c25
              have c25b1 : (t146 != 0) = true := bne_iff_ne.mpr c25
              have H' := Aside0.mk H
              clear H
              go_wp2
              go_meet
              case rel => exact ⟨_, (true), (by first | rfl | (simp; done) | (simp [*]; done)), H', ⟨by have := HJ4.out; first | omega | exact Nat.le_refl _⟩, ⟨by repeat (first | (with_reducible first | exact HB.out | apply below_alloc | apply pw_below_drewN | apply below_drew1) | exact HB.out)⟩⟩
          · rw [if_neg c24] at H
            have c24b0 : (t143 == 0) = false := beq_eq_false_iff_ne.mpr c24
            have c24b1 : (t143 != 0) = true := bne_iff_ne.mpr c24
            (first | rw [c24b0] | (simp only [i64_w, i32_w]; rw [c24b0]) | skip)
            have H' := Aside0.mk H
            clear H
            go_wp2
            go_meet
            case rel => exact ⟨_, (true), (by first | rfl | (simp; done) | (simp [*]; done)), H', ⟨by have := HJ4.out; first | omega | exact Nat.le_refl _⟩, ⟨by repeat (first | (with_reducible first | exact HB.out | apply below_alloc | apply pw_below_drewN | apply below_drew1) | exact HB.out)⟩⟩
        case rest =>
          clear HC21
          try clear c1
          try clear c2
          try clear p2
          try clear c3
          try clear p6
          try clear c8
          try clear c8b0
          try clear c8b1
          try clear c9
          try clear c9b0
          try clear c9b1
          try clear c10
          try clear c10b0
          try clear c11
          try clear c11b0
          try clear c12
          try clear c12b0
          try clear c12b1
          try clear c13
          try clear c13b0
          try clear c15
          try clear c15b0
          try clear c15b1
          try clear c17
          try clear c17b0
          try clear c18
          try clear c24
          try clear c24b0
          try clear c24b1
          try clear c25
          try clear c25b0
          try clear c25b1
          try clear c26
          try clear c26b0
          try clear c27
          try clear c27b0
          try clear c28
          try clear c28b0
          try clear c28b1
          try clear c29
          try clear c29b0
          try clear c31
          try clear c31b0
          try clear c31b1
          try clear c33
          try clear c33b0
          try clear p2
          try clear p6
          obtain ⟨kq, x130_20, rfl, HA, HJ20, HB⟩ := hcut
          cases kq with
          | zero => exact absurd HA.out (by simp [wherrylaw05_SymOnce.j1])
          | succ kj20 =>
            have H := HA.out
            clear HA
            simp only [wherrylaw05_SymOnce.j1] at H
            by_cases c34 : x130_20 = true
            · subst c34
              have H1 : (some false) = some r := by rw [if_pos rfl] at H; exact H
              clear H
              have H := H1
              clear H1
              obtain rfl := Option.some.inj H
              go_wp2
              go_ret
              exact ⟨by first | rfl | (simp [errW_none, errW_some] <;> rfl) | (simp [*, errW_none, errW_some] <;> rfl), by repeat (first | (with_reducible first | exact HB.out | apply below_alloc | apply pw_below_drewN | apply below_drew1) | exact HB.out)⟩
            · replace c34 := Bool.eq_false_iff.mpr c34
              subst c34
              have H1 : (if (wrap64 (3 + (wrap64 (Int.tmod (IntKind.u64.wrap (a0)) 256)))) < 258 then ((sym_Len.f kj20 (wrap64 ((wrap64 (3 + (wrap64 (Int.tmod (IntKind.u64.wrap (a0)) 256)))) + 1))).bind fun bt147 => (if bt147.2.2.2 = 0 then (if bt147.1 < t133 then (some false) else (if bt147.1 > (wrap64 (t133 + 1)) then (some false) else (wherrylaw05_SymOnce.j2 kj20 (wrap64 (1 + (wrap64 (Int.tmod (IntKind.u64.wrap (a1)) 32768)))) t140))) else (some false))) else (wherrylaw05_SymOnce.j2 kj20 (wrap64 (1 + (wrap64 (Int.tmod (IntKind.u64.wrap (a1)) 32768)))) t140)) = some r := by rw [if_neg (show ¬ (false = true) by decide)] at H; exact H
              clear H
              have H := H1
              clear H1
              have HC35 := Aside0.mk H
              clear H
              go_upto_if 132 with (fail)
              go_cut [] (fun wc => ∃ (kq : Nat), Aside0 (wherrylaw05_SymOnce.j2 kq (wrap64 (1 + (wrap64 (Int.tmod (IntKind.u64.wrap (a1)) 32768)))) t140 = some r) ∧ Aside0 (kq ≤ kj20) ∧ Aside0 (Below w.heap.size w wc))
              case first =>
                have H := HC35.out
                clear HC35
                by_cases c36 : (wrap64 (3 + (wrap64 (Int.tmod (IntKind.u64.wrap (a0)) 256)))) < 258
                · rw [if_pos c36] at H
                  have c36b0 : decide ((wrap64 (3 + (wrap64 (Int.tmod (IntKind.u64.wrap (a0)) 256)))) < 258) = true := decide_eq_true c36
                  clear c36
                  (first | rw [c36b0] | (simp only [i64_w, i32_w]; rw [c36b0]) | skip)
                  replace H := Option.bind_eq_some_iff.mp H
                  obtain ⟨⟨t147, t148, t149, t150⟩, A370, H⟩ := H
                  replace H : (if t150 = 0 then (if t147 < t133 then (some false) else (if t147 > (wrap64 (t133 + 1)) then (some false) else (wherrylaw05_SymOnce.j2 kj20 (wrap64 (1 + (wrap64 (Int.tmod (IntKind.u64.wrap (a1)) 32768)))) t140))) else (some false)) = some r := H
                  have A37 := Aside0.mk A370
                  clear A370
                  by_cases c38 : t150 = 0
                  · rw [if_pos c38] at H
                    have c38b0 : (t150 == 0) = true := beq_iff_eq.mpr c38
                    have c38b1 : (t150 != 0) = false := bne_eq_false_iff_eq.mpr c38
                    clear c38
                    by_cases c39 : t147 < t133
                    · rw [if_pos c39] at H
                      have c39b0 : decide (t147 < t133) = true := decide_eq_true c39
                      clear c39
                      obtain rfl := Option.some.inj H
                      go_wp2_with (first | ((with_reducible refine gate_callee (f := 9) rfl ?_); refine goesL_ (some 136) rfl rfl Try.func9 (by kernel_rfl) rfl #[.int .i64 (wrap64 ((wrap64 (3 + (wrap64 (Int.tmod (IntKind.u64.wrap (a0)) 256)))) + 1))] rfl (by (try simp only [List.map_toArray, List.map_cons, List.map_nil]); first | done | rfl | (simp only [List.length_drop, List.length_take]; rfl)) ?_; (with_reducible refine (sym_Len.calls kj20 (wrap64 ((wrap64 (3 + (wrap64 (Int.tmod (IntKind.u64.wrap (a0)) 256)))) + 1)) t147 t148 t149 t150 _ A37.out).mono ?_); rintro e w40 ⟨rfl, hb⟩; refine ⟨_, rfl, ?_⟩; have n0_ := Aside0.mk (below_step (by repeat (first | (with_reducible first | exact HB.out | apply below_alloc | apply pw_below_drewN | apply below_drew1) | exact HB.out)) hb); clear HB; have HB := n0_; clear n0_; (try clear hb); (try clear hb2); (try clear hk); (try clear hi)))
                      go_ret
                      exact ⟨by first | rfl | (simp [errW_none, errW_some] <;> rfl) | (simp [*, errW_none, errW_some] <;> rfl), by repeat (first | (with_reducible first | exact HB.out | apply below_alloc | apply pw_below_drewN | apply below_drew1) | exact HB.out)⟩
                    · rw [if_neg c39] at H
                      have c39b0 : decide (t147 < t133) = false := decide_eq_false c39
                      clear c39
                      by_cases c41 : t147 > (wrap64 (t133 + 1))
                      · rw [if_pos c41] at H
                        have c41b0 : decide ((wrap64 (t133 + 1)) < t147) = true := decide_eq_true c41
                        clear c41
                        obtain rfl := Option.some.inj H
                        go_wp2_with (first | ((with_reducible refine gate_callee (f := 9) rfl ?_); refine goesL_ (some 136) rfl rfl Try.func9 (by kernel_rfl) rfl #[.int .i64 (wrap64 ((wrap64 (3 + (wrap64 (Int.tmod (IntKind.u64.wrap (a0)) 256)))) + 1))] rfl (by (try simp only [List.map_toArray, List.map_cons, List.map_nil]); first | done | rfl | (simp only [List.length_drop, List.length_take]; rfl)) ?_; (with_reducible refine (sym_Len.calls kj20 (wrap64 ((wrap64 (3 + (wrap64 (Int.tmod (IntKind.u64.wrap (a0)) 256)))) + 1)) t147 t148 t149 t150 _ A37.out).mono ?_); rintro e w42 ⟨rfl, hb⟩; refine ⟨_, rfl, ?_⟩; have n0_ := Aside0.mk (below_step (by repeat (first | (with_reducible first | exact HB.out | apply below_alloc | apply pw_below_drewN | apply below_drew1) | exact HB.out)) hb); clear HB; have HB := n0_; clear n0_; (try clear hb); (try clear hb2); (try clear hk); (try clear hi)))
                        go_ret
                        exact ⟨by first | rfl | (simp [errW_none, errW_some] <;> rfl) | (simp [*, errW_none, errW_some] <;> rfl), by repeat (first | (with_reducible first | exact HB.out | apply below_alloc | apply pw_below_drewN | apply below_drew1) | exact HB.out)⟩
                      · rw [if_neg c41] at H
                        have c41b0 : decide ((wrap64 (t133 + 1)) < t147) = false := decide_eq_false c41
                        clear c41
                        have H' := Aside0.mk H
                        clear H
                        go_wp2_with (first | ((with_reducible refine gate_callee (f := 9) rfl ?_); refine goesL_ (some 136) rfl rfl Try.func9 (by kernel_rfl) rfl #[.int .i64 (wrap64 ((wrap64 (3 + (wrap64 (Int.tmod (IntKind.u64.wrap (a0)) 256)))) + 1))] rfl (by (try simp only [List.map_toArray, List.map_cons, List.map_nil]); first | done | rfl | (simp only [List.length_drop, List.length_take]; rfl)) ?_; (with_reducible refine (sym_Len.calls kj20 (wrap64 ((wrap64 (3 + (wrap64 (Int.tmod (IntKind.u64.wrap (a0)) 256)))) + 1)) t147 t148 t149 t150 _ A37.out).mono ?_); rintro e w43 ⟨rfl, hb⟩; refine ⟨_, rfl, ?_⟩; have n0_ := Aside0.mk (below_step (by repeat (first | (with_reducible first | exact HB.out | apply below_alloc | apply pw_below_drewN | apply below_drew1) | exact HB.out)) hb); clear HB; have HB := n0_; clear n0_; (try clear hb); (try clear hb2); (try clear hk); (try clear hi)))
                        go_meet
                        case rel => exact ⟨_, H', ⟨by have := HJ4.out; have := HJ20.out; first | omega | exact Nat.le_refl _⟩, ⟨by repeat (first | (with_reducible first | exact HB.out | apply below_alloc | apply pw_below_drewN | apply below_drew1) | exact HB.out)⟩⟩
                  · rw [if_neg c38] at H
                    have c38b0 : (t150 == 0) = false := beq_eq_false_iff_ne.mpr c38
                    have c38b1 : (t150 != 0) = true := bne_iff_ne.mpr c38
                    obtain rfl := Option.some.inj H
                    go_wp2_with (first | ((with_reducible refine gate_callee (f := 9) rfl ?_); refine goesL_ (some 136) rfl rfl Try.func9 (by kernel_rfl) rfl #[.int .i64 (wrap64 ((wrap64 (3 + (wrap64 (Int.tmod (IntKind.u64.wrap (a0)) 256)))) + 1))] rfl (by (try simp only [List.map_toArray, List.map_cons, List.map_nil]); first | done | rfl | (simp only [List.length_drop, List.length_take]; rfl)) ?_; (with_reducible refine (sym_Len.calls kj20 (wrap64 ((wrap64 (3 + (wrap64 (Int.tmod (IntKind.u64.wrap (a0)) 256)))) + 1)) t147 t148 t149 t150 _ A37.out).mono ?_); rintro e w44 ⟨rfl, hb⟩; refine ⟨_, rfl, ?_⟩; have n0_ := Aside0.mk (below_step (by repeat (first | (with_reducible first | exact HB.out | apply below_alloc | apply pw_below_drewN | apply below_drew1) | exact HB.out)) hb); clear HB; have HB := n0_; clear n0_; (try clear hb); (try clear hb2); (try clear hk); (try clear hi)))
                    go_ret
                    exact ⟨by first | rfl | (simp [errW_none, errW_some] <;> rfl) | (simp [*, errW_none, errW_some] <;> rfl), by repeat (first | (with_reducible first | exact HB.out | apply below_alloc | apply pw_below_drewN | apply below_drew1) | exact HB.out)⟩
                · rw [if_neg c36] at H
                  have c36b0 : decide ((wrap64 (3 + (wrap64 (Int.tmod (IntKind.u64.wrap (a0)) 256)))) < 258) = false := decide_eq_false c36
                  clear c36
                  (first | rw [c36b0] | (simp only [i64_w, i32_w]; rw [c36b0]) | skip)
                  have H' := Aside0.mk H
                  clear H
                  go_wp2
                  go_meet
                  case rel => exact ⟨_, H', ⟨by have := HJ4.out; have := HJ20.out; first | omega | exact Nat.le_refl _⟩, ⟨by repeat (first | (with_reducible first | exact HB.out | apply below_alloc | apply pw_below_drewN | apply below_drew1) | exact HB.out)⟩⟩
              case rest =>
                clear HC35
                try clear c1
                try clear c2
                try clear p2
                try clear c3
                try clear c4
                try clear p6
                try clear c8
                try clear c8b0
                try clear c8b1
                try clear c9
                try clear c9b0
                try clear c9b1
                try clear c10
                try clear c10b0
                try clear c11
                try clear c11b0
                try clear c12
                try clear c12b0
                try clear c12b1
                try clear c13
                try clear c13b0
                try clear c15
                try clear c15b0
                try clear c15b1
                try clear c17
                try clear c17b0
                try clear c18
                try clear c24
                try clear c24b0
                try clear c24b1
                try clear c25
                try clear c25b0
                try clear c25b1
                try clear c26
                try clear c26b0
                try clear c27
                try clear c27b0
                try clear c28
                try clear c28b0
                try clear c28b1
                try clear c29
                try clear c29b0
                try clear c31
                try clear c31b0
                try clear c31b1
                try clear c33
                try clear c33b0
                try clear c34
                try clear c36
                try clear c36b0
                try clear c38
                try clear c38b0
                try clear c38b1
                try clear c39
                try clear c39b0
                try clear c41
                try clear c41b0
                try clear p2
                try clear p6
                obtain ⟨kq, HA, HJ34, HB⟩ := hcut
                cases kq with
                | zero => exact absurd HA.out (by simp [wherrylaw05_SymOnce.j2])
                | succ kj34 =>
                  have H := HA.out
                  clear HA
                  simp only [wherrylaw05_SymOnce.j2] at H
                  by_cases c45 : (wrap64 (1 + (wrap64 (Int.tmod (IntKind.u64.wrap (a1)) 32768)))) < 32768
                  · rw [if_pos c45] at H
                    have c45b0 : decide ((wrap64 (1 + (wrap64 (Int.tmod (IntKind.u64.wrap (a1)) 32768)))) < 32768) = true := decide_eq_true c45
                    clear c45
                    replace H := Option.bind_eq_some_iff.mp H
                    obtain ⟨⟨t151, t152, t153, t154⟩, A460, H⟩ := H
                    replace H : (if t154 = 0 then (if t151 < t140 then (some false) else (if t151 > (wrap64 (t140 + 1)) then (some false) else ((wherrylaw05_wakes.f kj34).bind fun t155 => (some t155)))) else (some false)) = some r := H
                    have A46 := Aside0.mk A460
                    clear A460
                    by_cases c47 : t154 = 0
                    · rw [if_pos c47] at H
                      have c47b0 : (t154 == 0) = true := beq_iff_eq.mpr c47
                      have c47b1 : (t154 != 0) = false := bne_eq_false_iff_eq.mpr c47
                      clear c47
                      by_cases c48 : t151 < t140
                      · rw [if_pos c48] at H
                        have c48b0 : decide (t151 < t140) = true := decide_eq_true c48
                        clear c48
                        obtain rfl := Option.some.inj H
                        go_wp2_with (first | ((with_reducible refine gate_callee (f := 11) rfl ?_); refine goesL_ (some 159) rfl rfl Try.func11 (by kernel_rfl) rfl #[.int .i64 (wrap64 ((wrap64 (1 + (wrap64 (Int.tmod (IntKind.u64.wrap (a1)) 32768)))) + 1))] rfl (by (try simp only [List.map_toArray, List.map_cons, List.map_nil]); first | done | rfl | (simp only [List.length_drop, List.length_take]; rfl)) ?_; (with_reducible refine (sym_Dist.calls kj34 (wrap64 ((wrap64 (1 + (wrap64 (Int.tmod (IntKind.u64.wrap (a1)) 32768)))) + 1)) t151 t152 t153 t154 _ A46.out).mono ?_); rintro e w49 ⟨rfl, hb⟩; refine ⟨_, rfl, ?_⟩; have n0_ := Aside0.mk (below_step (by repeat (first | (with_reducible first | exact HB.out | apply below_alloc | apply pw_below_drewN | apply below_drew1) | exact HB.out)) hb); clear HB; have HB := n0_; clear n0_; (try clear hb); (try clear hb2); (try clear hk); (try clear hi)))
                        go_ret
                        exact ⟨by first | rfl | (simp [errW_none, errW_some] <;> rfl) | (simp [*, errW_none, errW_some] <;> rfl), by repeat (first | (with_reducible first | exact HB.out | apply below_alloc | apply pw_below_drewN | apply below_drew1) | exact HB.out)⟩
                      · rw [if_neg c48] at H
                        have c48b0 : decide (t151 < t140) = false := decide_eq_false c48
                        clear c48
                        by_cases c50 : t151 > (wrap64 (t140 + 1))
                        · rw [if_pos c50] at H
                          have c50b0 : decide ((wrap64 (t140 + 1)) < t151) = true := decide_eq_true c50
                          clear c50
                          obtain rfl := Option.some.inj H
                          go_wp2_with (first | ((with_reducible refine gate_callee (f := 11) rfl ?_); refine goesL_ (some 159) rfl rfl Try.func11 (by kernel_rfl) rfl #[.int .i64 (wrap64 ((wrap64 (1 + (wrap64 (Int.tmod (IntKind.u64.wrap (a1)) 32768)))) + 1))] rfl (by (try simp only [List.map_toArray, List.map_cons, List.map_nil]); first | done | rfl | (simp only [List.length_drop, List.length_take]; rfl)) ?_; (with_reducible refine (sym_Dist.calls kj34 (wrap64 ((wrap64 (1 + (wrap64 (Int.tmod (IntKind.u64.wrap (a1)) 32768)))) + 1)) t151 t152 t153 t154 _ A46.out).mono ?_); rintro e w51 ⟨rfl, hb⟩; refine ⟨_, rfl, ?_⟩; have n0_ := Aside0.mk (below_step (by repeat (first | (with_reducible first | exact HB.out | apply below_alloc | apply pw_below_drewN | apply below_drew1) | exact HB.out)) hb); clear HB; have HB := n0_; clear n0_; (try clear hb); (try clear hb2); (try clear hk); (try clear hi)))
                          go_ret
                          exact ⟨by first | rfl | (simp [errW_none, errW_some] <;> rfl) | (simp [*, errW_none, errW_some] <;> rfl), by repeat (first | (with_reducible first | exact HB.out | apply below_alloc | apply pw_below_drewN | apply below_drew1) | exact HB.out)⟩
                        · rw [if_neg c50] at H
                          have c50b0 : decide ((wrap64 (t140 + 1)) < t151) = false := decide_eq_false c50
                          clear c50
                          replace H := Option.bind_eq_some_iff.mp H
                          obtain ⟨t155, A520, H⟩ := H
                          replace H : (some t155) = some r := H
                          have A52 := Aside0.mk A520
                          clear A520
                          obtain rfl := Option.some.inj H
                          go_wp2_with (first | ((with_reducible refine gate_callee (f := 11) rfl ?_); refine goesL_ (some 159) rfl rfl Try.func11 (by kernel_rfl) rfl #[.int .i64 (wrap64 ((wrap64 (1 + (wrap64 (Int.tmod (IntKind.u64.wrap (a1)) 32768)))) + 1))] rfl (by (try simp only [List.map_toArray, List.map_cons, List.map_nil]); first | done | rfl | (simp only [List.length_drop, List.length_take]; rfl)) ?_; (with_reducible refine (sym_Dist.calls kj34 (wrap64 ((wrap64 (1 + (wrap64 (Int.tmod (IntKind.u64.wrap (a1)) 32768)))) + 1)) t151 t152 t153 t154 _ A46.out).mono ?_); rintro e w53 ⟨rfl, hb⟩; refine ⟨_, rfl, ?_⟩; have n0_ := Aside0.mk (below_step (by repeat (first | (with_reducible first | exact HB.out | apply below_alloc | apply pw_below_drewN | apply below_drew1) | exact HB.out)) hb); clear HB; have HB := n0_; clear n0_; (try clear hb); (try clear hb2); (try clear hk); (try clear hi)) | ((with_reducible refine gate_callee (f := 13) rfl ?_); refine goesL_ (some 177) rfl rfl Try.func13 (by kernel_rfl) rfl #[] rfl (by (try simp only [List.map_toArray, List.map_cons, List.map_nil]); first | done | rfl | (simp only [List.length_drop, List.length_take]; rfl)) ?_; (with_reducible refine (wherrylaw05_wakes.calls kj34  t155 _ A52.out).mono ?_); rintro e w54 ⟨rfl, hb⟩; refine ⟨_, rfl, ?_⟩; have n0_ := Aside0.mk (below_step (by repeat (first | (with_reducible first | exact HB.out | apply below_alloc | apply pw_below_drewN | apply below_drew1) | exact HB.out)) hb); clear HB; have HB := n0_; clear n0_; (try clear hb); (try clear hb2); (try clear hk); (try clear hi)))
                          go_ret
                          exact ⟨by first | rfl | (simp [errW_none, errW_some] <;> rfl) | (simp [*, errW_none, errW_some] <;> rfl), by repeat (first | (with_reducible first | exact HB.out | apply below_alloc | apply pw_below_drewN | apply below_drew1) | exact HB.out)⟩
                    · rw [if_neg c47] at H
                      have c47b0 : (t154 == 0) = false := beq_eq_false_iff_ne.mpr c47
                      have c47b1 : (t154 != 0) = true := bne_iff_ne.mpr c47
                      obtain rfl := Option.some.inj H
                      go_wp2_with (first | ((with_reducible refine gate_callee (f := 11) rfl ?_); refine goesL_ (some 159) rfl rfl Try.func11 (by kernel_rfl) rfl #[.int .i64 (wrap64 ((wrap64 (1 + (wrap64 (Int.tmod (IntKind.u64.wrap (a1)) 32768)))) + 1))] rfl (by (try simp only [List.map_toArray, List.map_cons, List.map_nil]); first | done | rfl | (simp only [List.length_drop, List.length_take]; rfl)) ?_; (with_reducible refine (sym_Dist.calls kj34 (wrap64 ((wrap64 (1 + (wrap64 (Int.tmod (IntKind.u64.wrap (a1)) 32768)))) + 1)) t151 t152 t153 t154 _ A46.out).mono ?_); rintro e w55 ⟨rfl, hb⟩; refine ⟨_, rfl, ?_⟩; have n0_ := Aside0.mk (below_step (by repeat (first | (with_reducible first | exact HB.out | apply below_alloc | apply pw_below_drewN | apply below_drew1) | exact HB.out)) hb); clear HB; have HB := n0_; clear n0_; (try clear hb); (try clear hb2); (try clear hk); (try clear hi)))
                      go_ret
                      exact ⟨by first | rfl | (simp [errW_none, errW_some] <;> rfl) | (simp [*, errW_none, errW_some] <;> rfl), by repeat (first | (with_reducible first | exact HB.out | apply below_alloc | apply pw_below_drewN | apply below_drew1) | exact HB.out)⟩
                  · rw [if_neg c45] at H
                    have c45b0 : decide ((wrap64 (1 + (wrap64 (Int.tmod (IntKind.u64.wrap (a1)) 32768)))) < 32768) = false := decide_eq_false c45
                    clear c45
                    replace H := Option.bind_eq_some_iff.mp H
                    obtain ⟨t156, A560, H⟩ := H
                    replace H : (some t156) = some r := H
                    have A56 := Aside0.mk A560
                    clear A560
                    obtain rfl := Option.some.inj H
                    go_wp2_with (first | ((with_reducible refine gate_callee (f := 13) rfl ?_); refine goesL_ (some 177) rfl rfl Try.func13 (by kernel_rfl) rfl #[] rfl (by (try simp only [List.map_toArray, List.map_cons, List.map_nil]); first | done | rfl | (simp only [List.length_drop, List.length_take]; rfl)) ?_; (with_reducible refine (wherrylaw05_wakes.calls kj34  t156 _ A56.out).mono ?_); rintro e w57 ⟨rfl, hb⟩; refine ⟨_, rfl, ?_⟩; have n0_ := Aside0.mk (below_step (by repeat (first | (with_reducible first | exact HB.out | apply below_alloc | apply pw_below_drewN | apply below_drew1) | exact HB.out)) hb); clear HB; have HB := n0_; clear n0_; (try clear hb); (try clear hb2); (try clear hk); (try clear hi)))
                    go_ret
                    exact ⟨by first | rfl | (simp [errW_none, errW_some] <;> rfl) | (simp [*, errW_none, errW_some] <;> rfl), by repeat (first | (with_reducible first | exact HB.out | apply below_alloc | apply pw_below_drewN | apply below_drew1) | exact HB.out)⟩

/-- THE ONE PURE STATEMENT of wherrylaw05_SymOnce: yours. -/
def wherrylaw05_SymOnce.Pure : Prop := ∀ (a0 : Int) (a1 : Int), (Lit.int .i64 a0).wf = true → (Lit.int .i64 a1).wf = true → ∃ k, wherrylaw05_SymOnce.f k a0 a1 = some true
theorem wherrylaw05_SymOnce.walk (P : wherrylaw05_SymOnce.Pure) (a0 : Int) (a1 : Int) (w : World) (w0 : (Lit.int .i64 a0).wf = true) (w1 : (Lit.int .i64 a1).wf = true) :
    Calls Try.prog 3 #[.int .i64 a0, .int .i64 a1] w fun e w' => e = .returned (.bool true) ∧ Below w.heap.size w w' := by
  obtain ⟨k, h⟩ := P a0 a1 w0 w1
  refine (wherrylaw05_SymOnce.calls k a0 a1 true w h).mono ?_
  rintro e w' ⟨rfl, hd⟩
  exact ⟨rfl, hd⟩

end Go.Proofs.Ytfghmdjlhfclaaa.PSymOnce
