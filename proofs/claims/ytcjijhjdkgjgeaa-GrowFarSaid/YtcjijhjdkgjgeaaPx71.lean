-- Written by a program of this session out of the translation. Lean checks it.
import Derived.Test.YtcjijhjdkgjgeaaPx0
import Derived.Test.YtcjijhjdkgjgeaaPx25
namespace Go.Proofs.Ytcjijhjdkgjgeaa.P
open Go.RowKit Go.Proofs.YtcjijhjdkgjgeaaW.PrintWords Go.Proofs.YtcjijhjdkgjgeaaW.PrintLast Go.Proofs.YtcjijhjdkgjgeaaW.PrintMore
attribute [local go_sem] max2_int min2_int max_two min_two max_three min_three max_four min_four   -- for this text's walks alone
set_option linter.unusedVariables false
set_option linter.unusedSimpArgs false

/-! ### bits_Check: function 22 -/
def bits_Check.j0 : Nat → Bool → List Int → Int → Option (Int)
  | 0, _, _, _ => none
  | k + 1, x22, x298000, x298001 => if x22 = true then (some 1) else (if (IntKind.u64.wrap (Int.tmod x298001 8)) > 0 then (if 0 ≤ (wrap64 ((x298000.length : Int) - 1)) then (if (wrap64 ((x298000.length : Int) - 1)) < (x298000.length : Int) then (if 0 ≤ (IntKind.u64.wrap (Int.tmod x298001 8)) then (if (shr .u8 (rd x298000 (wrap64 ((x298000.length : Int) - 1))) (IntKind.u64.wrap (Int.tmod x298001 8))) = 0 then (some 0) else (some 1)) else (none)) else (none)) else (none)) else (some 0))
def bits_Check.f (k : Nat) (l0_0 : List Int) (a0_1 : Int) : Option (Int) := if a0_1 < 0 then (bits_Check.j0 k true l0_0 a0_1) else (if a0_1 > 40000 then (bits_Check.j0 k true l0_0 a0_1) else (bits_Check.j0 k ((l0_0.length : Int) != (wrap64 (Int.tdiv (wrap64 ((wrap64 (a0_1 + 8)) - 1)) 8))) l0_0 a0_1))
theorem bits_Check.mono_l : ∀ k, (∀ y0 y1 y2, LeO (bits_Check.j0 k y0 y1 y2) (bits_Check.j0 (k + 1) y0 y1 y2))
  | 0 => fun _ _ _ r h => by simp [bits_Check.j0] at h
  | k + 1 => by
    have ih0 := bits_Check.mono_l k
    · intro y0 y1 y2
      unfold bits_Check.j0
      repeat' first
      | (with_reducible exact ih0 _ _ _)
      | (with_reducible exact LeO.refl _)
      | (with_reducible exact LeO.none _)
      | (with_reducible refine LeO.ite ?_ ?_)
      | (with_reducible refine LeO.bind ?_ (fun _ => ?_))
      | exact ih0 _ _ _
      | exact LeO.none _
      | refine LeO.ite ?_ ?_
      | refine LeO.bind ?_ (fun _ => ?_)
theorem bits_Check.mono : ∀ a0 a1 k, LeO (bits_Check.f k a0 a1) (bits_Check.f (k + 1) a0 a1) := by
  intro a0 a1 k
  have ih0 := bits_Check.mono_l k
  unfold bits_Check.f
  repeat' first
      | (with_reducible exact ih0 _ _ _)
      | (with_reducible exact LeO.refl _)
      | (with_reducible exact LeO.none _)
      | (with_reducible refine LeO.ite ?_ ?_)
      | (with_reducible refine LeO.bind ?_ (fun _ => ?_))
      | exact ih0 _ _ _
      | exact LeO.none _
      | refine LeO.ite ?_ ?_
      | refine LeO.bind ?_ (fun _ => ?_)
set_option maxHeartbeats 8000000 in
set_option maxRecDepth 100000 in
theorem bits_Check.calls (k : Nat) (A0_0 : Option Addr) (c0_0 : Nat) (l0_0 : List Int) (a0_1 : Int) (r : Int) (w : World) (hr0_0 : Kd.C (Kd.int .u8) w A0_0 l0_0.length l0_0) (hc0_0 : l0_0.length ≤ c0_0) (h : bits_Check.f k l0_0 a0_1 = some r) :
    Calls Try.prog 22 #[.agg #[.slice A0_0 l0_0.length c0_0, .int .i64 a0_1]] w fun e w' => e = .returned (.int .i64 r) ∧ Below w.heap.size w w' := by
  have hu34 := Try.underlying34
  have HR0_0 := Aside0.mk hr0_0
  have HC0_0 := Aside0.mk hc0_0
  clear hr0_0 hc0_0
  have HB := Aside0.mk (Below.refl w.heap.size w)
  have H : (if a0_1 < 0 then (bits_Check.j0 k true l0_0 a0_1) else (if a0_1 > 40000 then (bits_Check.j0 k true l0_0 a0_1) else (bits_Check.j0 k ((l0_0.length : Int) != (wrap64 (Int.tdiv (wrap64 ((wrap64 (a0_1 + 8)) - 1)) 8))) l0_0 a0_1))) = some r := h
  clear h
  have HC2 := Aside0.mk H
  clear H
  go_enter Try.func22, Try.ntmps22
  go_upto_region 1 with (first | ((with_reducible refine gate_dst (N := 1) rfl ?_); (try (refine gate_guard (by rfl) ?_; dsimp only)); refine box_event ?hg (N := 1) ?hd (cs := #[.slice A0_0 l0_0.length c0_0, .int .i64 a0_1]) (t := 34) ?hr ?_; (case hd => rfl); (case hg => rfl); (case hr => first | (go_simp; done) | (go_simp; rfl)); intro gb297 hg w3 hbox hb; have n0_ := Aside0.mk (below_step (by repeat (first | (with_reducible first | exact HB.out | apply below_alloc | apply pw_below_drewN | apply below_drew1) | exact HB.out)) hb); have n1_ := Aside0.mk (hbox); have n2_ := Aside0.mk ((by rw [hg]; exact (below_size (by repeat (first | (with_reducible first | exact HB.out | apply below_alloc | apply pw_below_drewN | apply below_drew1) | exact HB.out))) : w.heap.size ≤ gb297)); have n3_ := Aside0.mk ((by rw [hg]; exact (below_size (by repeat (first | (with_reducible first | exact HB.out | apply below_alloc | apply pw_below_drewN | apply below_drew1) | exact HB.out))) : w.heap.size ≤ gb297)); clear HB; have HB := n0_; have BK297 := n1_; have GW297 := n2_; have GE297 := n3_; clear n0_ n1_ n2_ n3_; clear hb hbox hg))
  (try simp only [Act.put, List.setIfInBounds_toArray, List.set_cons_zero, List.set_cons_succ])
  go_cut [22] (fun v22 wc => ∃ (kq : Nat) (x22_1 : Bool), v22 = .bool x22_1 ∧ Aside0 (bits_Check.j0 kq x22_1 l0_0 a0_1 = some r) ∧ Aside0 (kq ≤ k) ∧ Aside0 (wc.heap[gb297]? = some (.cells #[(.slice A0_0 l0_0.length c0_0), .int .i64 a0_1] 34 (0, 0))) ∧ Aside0 (Below w.heap.size w wc))
  case first =>
    have H := HC2.out
    clear HC2
    by_cases c4 : a0_1 < 0
    · rw [if_pos c4] at H
      have c4b0 : decide (a0_1 < 0) = true := decide_eq_true c4
      clear c4
      (first | rw [c4b0] | (simp only [i64_w, i32_w]; rw [c4b0]) | skip)
      have H' := Aside0.mk H
      clear H
      have hcz5_0 : w3.cell? ⟨gb297, 0, none⟩ = some (.slice A0_0 l0_0.length c0_0) := (blk_cell BK297.out 0).trans rfl
      have hcz5_1 : w3.cell? ⟨gb297, 1, none⟩ = some (.int .i64 a0_1) := (blk_cell BK297.out 1).trans rfl
      have hfz5_0 := blk_frozen BK297.out 0
      have hfz5_1 := blk_frozen BK297.out 1
      go_wp2
      go_meet
      case rel => exact ⟨_, (true), (by first | rfl | (simp; done) | (simp [*]; done)), H', ⟨by first | omega | exact Nat.le_refl _⟩, ⟨by (with_reducible repeat (first | refine blk_drewN ?_ _ | refine blk_drew ?_ | refine blk_alloc ?_ _)); exact BK297.out⟩, ⟨by repeat (first | (with_reducible first | exact HB.out | apply below_alloc | apply pw_below_drewN | apply below_drew1 | refine below_set ?_ GE297.out) | exact HB.out)⟩⟩
    · rw [if_neg c4] at H
      have c4b0 : decide (a0_1 < 0) = false := decide_eq_false c4
      clear c4
      (first | rw [c4b0] | (simp only [i64_w, i32_w]; rw [c4b0]) | skip)
      by_cases c6 : a0_1 > 40000
      · rw [if_pos c6] at H
        have c6b0 : decide (40000 < a0_1) = true := decide_eq_true c6
        clear c6
        have H' := Aside0.mk H
        clear H
        have hcz7_0 : w3.cell? ⟨gb297, 0, none⟩ = some (.slice A0_0 l0_0.length c0_0) := (blk_cell BK297.out 0).trans rfl
        have hcz7_1 : w3.cell? ⟨gb297, 1, none⟩ = some (.int .i64 a0_1) := (blk_cell BK297.out 1).trans rfl
        have hfz7_0 := blk_frozen BK297.out 0
        have hfz7_1 := blk_frozen BK297.out 1
        go_wp2
        go_meet
        case rel => exact ⟨_, (true), (by first | rfl | (simp; done) | (simp [*]; done)), H', ⟨by first | omega | exact Nat.le_refl _⟩, ⟨by (with_reducible repeat (first | refine blk_drewN ?_ _ | refine blk_drew ?_ | refine blk_alloc ?_ _)); exact BK297.out⟩, ⟨by repeat (first | (with_reducible first | exact HB.out | apply below_alloc | apply pw_below_drewN | apply below_drew1 | refine below_set ?_ GE297.out) | exact HB.out)⟩⟩
      · rw [if_neg c6] at H
        have c6b0 : decide (40000 < a0_1) = false := decide_eq_false c6
        clear c6
        have H' := Aside0.mk H
        clear H
        have hcz8_0 : w3.cell? ⟨gb297, 0, none⟩ = some (.slice A0_0 l0_0.length c0_0) := (blk_cell BK297.out 0).trans rfl
        have hcz8_1 : w3.cell? ⟨gb297, 1, none⟩ = some (.int .i64 a0_1) := (blk_cell BK297.out 1).trans rfl
        have hfz8_0 := blk_frozen BK297.out 0
        have hfz8_1 := blk_frozen BK297.out 1
        go_wp2
        go_meet
        case rel => exact ⟨_, (((l0_0.length : Int) != (wrap64 (Int.tdiv (wrap64 ((wrap64 (a0_1 + 8)) - 1)) 8)))), (by first | rfl | (simp; done) | (simp [*]; done)), H', ⟨by first | omega | exact Nat.le_refl _⟩, ⟨by (with_reducible repeat (first | refine blk_drewN ?_ _ | refine blk_drew ?_ | refine blk_alloc ?_ _)); exact BK297.out⟩, ⟨by repeat (first | (with_reducible first | exact HB.out | apply below_alloc | apply pw_below_drewN | apply below_drew1 | refine below_set ?_ GE297.out) | exact HB.out)⟩⟩
  case rest =>
    clear HC2
    try clear c2
    try clear p2
    try clear c4
    try clear c4b0
    try clear c6
    try clear c6b0
    try clear p6
    try clear hcz5_0
    try clear hcz5_1
    try clear hcz7_0
    try clear hcz7_1
    try clear hcz8_0
    try clear hcz8_1
    try clear hfz5_0
    try clear hfz5_1
    try clear hfz7_0
    try clear hfz7_1
    try clear hfz8_0
    try clear hfz8_1
    obtain ⟨kq, x22_1, rfl, HA, HJ1, BK297, HB⟩ := hcut
    cases kq with
    | zero => exact absurd HA.out (by simp [bits_Check.j0])
    | succ kj1 =>
      have H := HA.out
      clear HA
      simp only [bits_Check.j0] at H
      by_cases c9 : x22_1 = true
      · subst c9
        have H1 : (some 1) = some r := by rw [if_pos rfl] at H; exact H
        clear H
        have H := H1
        clear H1
        obtain rfl := Option.some.inj H
        go_wp2
        go_ret
        exact ⟨by first | rfl | (simp [errW_none, errW_some] <;> rfl) | (simp [*, errW_none, errW_some] <;> rfl), by repeat (first | (with_reducible first | exact HB.out | apply below_alloc | apply pw_below_drewN | apply below_drew1 | refine below_set ?_ GE297.out) | exact HB.out)⟩
      · replace c9 := Bool.eq_false_iff.mpr c9
        subst c9
        have H1 : (if (IntKind.u64.wrap (Int.tmod a0_1 8)) > 0 then (if 0 ≤ (wrap64 ((l0_0.length : Int) - 1)) then (if (wrap64 ((l0_0.length : Int) - 1)) < (l0_0.length : Int) then (if 0 ≤ (IntKind.u64.wrap (Int.tmod a0_1 8)) then (if (shr .u8 (rd l0_0 (wrap64 ((l0_0.length : Int) - 1))) (IntKind.u64.wrap (Int.tmod a0_1 8))) = 0 then (some 0) else (some 1)) else (none)) else (none)) else (none)) else (some 0)) = some r := by rw [if_neg (show ¬ (false = true) by decide)] at H; exact H
        clear H
        have H := H1
        clear H1
        by_cases c10 : (IntKind.u64.wrap (Int.tmod a0_1 8)) > 0
        · rw [if_pos c10] at H
          have c10b0 : decide (0 < (IntKind.u64.wrap (Int.tmod a0_1 8))) = true := decide_eq_true c10
          clear c10
          obtain ⟨ji11, hji11⟩ : ∃ j_ : Int, (wrap64 ((l0_0.length : Int) - 1)) = j_ := ⟨_, rfl⟩
          replace H : (if 0 ≤ (ji11) then (if (ji11) < (l0_0.length : Int) then (if 0 ≤ (IntKind.u64.wrap (Int.tmod a0_1 8)) then (if (shr .u8 (rd l0_0 (ji11)) (IntKind.u64.wrap (Int.tmod a0_1 8))) = 0 then (some 0) else (some 1)) else (none)) else (none)) else (none)) = some r := by first | (rw [hji11] at H; exact H) | (simp only [hji11] at H ⊢; exact H)
          have hji11w : (IntKind.i64.wrap ((l0_0.length : Int) - 1)) = ji11 := (i64_w _).trans hji11
          by_cases c12 : 0 ≤ (ji11)
          · rw [if_pos c12] at H
            have c12b0 : decide (0 ≤ (ji11)) = true := decide_eq_true c12
            clear c12
            by_cases c13 : (ji11) < (l0_0.length : Int)
            · rw [if_pos c13] at H
              have c13b0 : decide ((ji11) < (l0_0.length : Int)) = true := decide_eq_true c13
              clear c13
              obtain ⟨ji14, hji14⟩ : ∃ j_ : Int, (IntKind.u64.wrap (Int.tmod a0_1 8)) = j_ := ⟨_, rfl⟩
              replace H : (if 0 ≤ (ji14) then (if (shr .u8 (rd l0_0 (ji11)) (ji14)) = 0 then (some 0) else (some 1)) else (none)) = some r := by first | (rw [hji14] at H; exact H) | (simp only [hji14] at H ⊢; exact H)
              (try rw [hji14] at c10b0)
              by_cases c15 : 0 ≤ (ji14)
              · rw [if_pos c15] at H
                have c15b0 := eq_true c15
                have c15b1 : decide (0 ≤ (ji14)) = true := decide_eq_true c15
                clear c15
                obtain ⟨ji16, hji16⟩ : ∃ j_ : Int, (shr .u8 (rd l0_0 (ji11)) (ji14)) = j_ := ⟨_, rfl⟩
                replace H : (if (ji16) = 0 then (some 0) else (some 1)) = some r := by first | (rw [hji16] at H; exact H) | (simp only [hji16] at H ⊢; exact H)
                have hji16_ : ((rd l0_0 (ji11)) / 2 ^ min (ji14).toNat 8) = ji16 := hji16
                have hji16z : (ji14) ≤ 8 → ((rd l0_0 (ji11)) / 2 ^ (ji14).toNat) = ji16 := shr_small hji16
                by_cases c17 : (ji16) = 0
                · rw [if_pos c17] at H
                  have c17b0 : ((ji16) == 0) = true := beq_iff_eq.mpr c17
                  have c17b1 : ((ji16) != 0) = false := bne_eq_false_iff_eq.mpr c17
                  clear c17
                  obtain rfl := Option.some.inj H
                  have hcz18_0 : wc.cell? ⟨gb297, 0, none⟩ = some (.slice A0_0 l0_0.length c0_0) := (blk_cell BK297.out 0).trans rfl
                  have hcz18_1 : wc.cell? ⟨gb297, 1, none⟩ = some (.int .i64 a0_1) := (blk_cell BK297.out 1).trans rfl
                  have hfz18_0 := blk_frozen BK297.out 0
                  have hfz18_1 := blk_frozen BK297.out 1
                  have p298 : 0 ≤ ((ji11) : Int) := of_decide_eq_true (by first | (with_reducible assumption) | assumption)
                  have q298 : (ji11) < (l0_0.length : Int) := of_decide_eq_true (by first | (with_reducible assumption) | assumption)
                  obtain ⟨ad298, e298, hx298_0⟩ := Kd.at_int HR0_0.out (ji11) p298 q298
                  cases e298
                  replace hx298_0 := (HB.out.cell (World.block_lt_of_cell? w _ hx298_0)).trans hx298_0
                  replace p298 := eq_true p298
                  replace q298 := eq_true q298
                  go_wp2
                  go_ret
                  exact ⟨by first | rfl | (simp [errW_none, errW_some] <;> rfl) | (simp only [← hji11, ← hji14, ← hji16]; first | rfl | (simp [errW_none, errW_some] <;> rfl)) | (simp [*, errW_none, errW_some] <;> rfl), by repeat (first | (with_reducible first | exact HB.out | apply below_alloc | apply pw_below_drewN | apply below_drew1 | refine below_set ?_ GE297.out) | exact HB.out)⟩
                · rw [if_neg c17] at H
                  have c17b0 : ((ji16) == 0) = false := beq_eq_false_iff_ne.mpr c17
                  have c17b1 : ((ji16) != 0) = true := bne_iff_ne.mpr c17
                  obtain rfl := Option.some.inj H
                  have hcz19_0 : wc.cell? ⟨gb297, 0, none⟩ = some (.slice A0_0 l0_0.length c0_0) := (blk_cell BK297.out 0).trans rfl
                  have hcz19_1 : wc.cell? ⟨gb297, 1, none⟩ = some (.int .i64 a0_1) := (blk_cell BK297.out 1).trans rfl
                  have hfz19_0 := blk_frozen BK297.out 0
                  have hfz19_1 := blk_frozen BK297.out 1
                  have p298 : 0 ≤ ((ji11) : Int) := of_decide_eq_true (by first | (with_reducible assumption) | assumption)
                  have q298 : (ji11) < (l0_0.length : Int) := of_decide_eq_true (by first | (with_reducible assumption) | assumption)
                  obtain ⟨ad298, e298, hx298_0⟩ := Kd.at_int HR0_0.out (ji11) p298 q298
                  cases e298
                  replace hx298_0 := (HB.out.cell (World.block_lt_of_cell? w _ hx298_0)).trans hx298_0
                  replace p298 := eq_true p298
                  replace q298 := eq_true q298
                  go_wp2
                  go_ret
                  exact ⟨by first | rfl | (simp [errW_none, errW_some] <;> rfl) | (simp only [← hji11, ← hji14, ← hji16]; first | rfl | (simp [errW_none, errW_some] <;> rfl)) | (simp [*, errW_none, errW_some] <;> rfl), by repeat (first | (with_reducible first | exact HB.out | apply below_alloc | apply pw_below_drewN | apply below_drew1 | refine below_set ?_ GE297.out) | exact HB.out)⟩
              · rw [if_neg c15] at H
                exact absurd H (by simp)
            · rw [if_neg c13] at H
              exact absurd H (by simp)
          · rw [if_neg c12] at H
            exact absurd H (by simp)
        · rw [if_neg c10] at H
          have c10b0 : decide (0 < (IntKind.u64.wrap (Int.tmod a0_1 8))) = false := decide_eq_false c10
          clear c10
          obtain rfl := Option.some.inj H
          have hcz20_0 : wc.cell? ⟨gb297, 0, none⟩ = some (.slice A0_0 l0_0.length c0_0) := (blk_cell BK297.out 0).trans rfl
          have hcz20_1 : wc.cell? ⟨gb297, 1, none⟩ = some (.int .i64 a0_1) := (blk_cell BK297.out 1).trans rfl
          have hfz20_0 := blk_frozen BK297.out 0
          have hfz20_1 := blk_frozen BK297.out 1
          go_wp2
          go_ret
          exact ⟨by first | rfl | (simp [errW_none, errW_some] <;> rfl) | (simp [*, errW_none, errW_some] <;> rfl), by repeat (first | (with_reducible first | exact HB.out | apply below_alloc | apply pw_below_drewN | apply below_drew1 | refine below_set ?_ GE297.out) | exact HB.out)⟩

end Go.Proofs.Ytcjijhjdkgjgeaa.P
namespace Go.Proofs.Ytcjijhjdkgjgeaa.P
open Go.RowKit Go.Proofs.YtcjijhjdkgjgeaaW.PrintWords Go.Proofs.YtcjijhjdkgjgeaaW.PrintLast Go.Proofs.YtcjijhjdkgjgeaaW.PrintMore
attribute [local go_sem] max2_int min2_int max_two min_two max_three min_three max_four min_four   -- for this text's walks alone
set_option linter.unusedVariables false
set_option linter.unusedSimpArgs false

-- PART
/-! ### slices_Clone_byte_byte: function 23 (by hand) -/
/-- What came in, in memory of its own. -/
def slices_Clone_byte_byte.f (l0 : List Int) : Option (List Int) := if l0.length < 140737488355328 then some l0 else none
set_option maxHeartbeats 8000000 in
set_option maxRecDepth 100000 in
theorem slices_Clone_byte_byte.calls (A0 : Option Addr) (c0 : Nat) (l0 : List Int) (r : List Int) (w : World) (hr0 : Kd.C (Kd.int .u8) w A0 l0.length l0) (hc0 : l0.length ≤ c0) (h : slices_Clone_byte_byte.f l0 = some r) :
    Calls Try.prog 23 #[.slice A0 l0.length c0] w fun e w' => ∃ v0_ : Value, e = .returned (v0_) ∧ Kd.R (Kd.int .u8) 5 w' w.heap.size (fun _ => True) v0_ r ∧ Below w.heap.size w w' := by
  unfold slices_Clone_byte_byte.f at h
  by_cases hlt : l0.length < 140737488355328
  · rw [if_pos hlt] at h
    obtain rfl := Option.some.inj h
    have HR := Aside0.mk hr0
    have HL := Aside0.mk hlt
    clear hr0 hlt h
    cases A0 with
    | none =>
      have h0 : l0 = [] := by
        rcases Nat.eq_zero_or_pos l0.length with h0 | h0
        · exact List.length_eq_zero_iff.1 h0
        · obtain ⟨ad, e, _⟩ := HR.out.2.2 h0
          cases e
      subst h0
      have hq : ∀ W : World, (binOp .eql 22 (.slice none 0 c0) (.slice none 0 0)).run Try.prog W = .ok (.bool true) W := fun W => Lib.run_eql_slice_nil W 22 5 none _ _ _ _ Try.underlying22
      go_enter Try.func23, Try.ntmps23
      go_wp2_with fail
      go_ret
      exact ⟨_, rfl, Kd.R_nil _ _ _ _ _, Below.refl _ _⟩
    | some ad =>
      have hq : ∀ W : World, (binOp .eql 22 (.slice (some ad) l0.length c0) (.slice none 0 0)).run Try.prog W = .ok (.bool false) W := fun W => Lib.run_eql_slice_nil W 22 5 (some ad) _ _ _ _ Try.underlying22
      go_enter Try.func23, Try.ntmps23
      go_wp2_with (first
        | ((with_reducible refine gate_dst (N := 5) rfl ?_); refine Kd.R_lit (Kd.int .u8) (w0 := w) w.heap.size 5 rfl (N := 5) rfl (xs := []) (inner := []) (ok := fun _ => True) (okp := fun _ => False) ?hr ?hrep (fun _ hk => hk.elim) trivial (Below.refl _ _) (Nat.le_refl _) (by simp) ?_; (case hr => first | (go_simp; done) | (go_simp; rfl)); (case hrep => exact ⟨rfl, fun j p hj => by simp at hj⟩); intro v1 w1 ho hb hg hat; (have HO := Aside0.mk ho); (have HB := Aside0.mk hb); (have HR1 := Aside0.mk (Kd.C_below HR.out hb)); clear ho hb hg hat HR)
        | ((with_reducible refine gate_builtin (b := .append) (xs := #[.tmp 5, .tmp 6]) rfl ?_); at_builtin; refine Kd.R_append_row (Value.int .u8) 0 (w0 := w) w.heap.size rfl (.tmp 5) (.tmp 6) 22 5 (.int .u8 0) 1 rfl Try.underlying22 info5 rfl (by decide) v1 [] l0 (some ad) l0.length c0 (fun _ => True) rfl rfl (fun _ _ => trivial) HO.out HR1.out HB.out HB.out.size (by have := HL.out; simp; omega) ?_; intro v2 w2 ho2 hb2 hg2 hat2; (have HO2 := Aside0.mk ho2); (have HB2 := Aside0.mk hb2); clear ho2 hb2 hg2 hat2))
      go_ret
      exact ⟨_, rfl, HO2.out, HB2.out⟩
  · rw [if_neg hlt] at h
    cases h

-- PART
end Go.Proofs.Ytcjijhjdkgjgeaa.P
namespace Go.Proofs.Ytcjijhjdkgjgeaa.P
open Go.RowKit Go.Proofs.YtcjijhjdkgjgeaaW.PrintWords Go.Proofs.YtcjijhjdkgjgeaaW.PrintLast Go.Proofs.YtcjijhjdkgjgeaaW.PrintMore
attribute [local go_sem] max2_int min2_int max_two min_two max_three min_three max_four min_four   -- for this text's walks alone
set_option linter.unusedVariables false
set_option linter.unusedSimpArgs false

-- PART
/-! ### bits_Put: function 15 (by hand) -/
/-- What Put tells: the first error that applies; else the row with the number's bits behind it. -/
def bits_Put.f (l0_0 : List Int) (a0_1 a1 a2 : Int) : Option (List Int × Int × Int) :=
  (bits_Check.f 2 l0_0 a0_1).bind fun e => if e = 0 then ((bits_may.f a1 a2).bind fun m => if m = true then (if a2 > 40000 - a0_1 then some ([], 0, 2) else some (padd a1 a2.toNat 0 l0_0 a0_1.toNat, a0_1 + a2, 0)) else some ([], 0, 1)) else some ([], 0, e)
theorem check_right {B : List Int} {N : Int} (h : bits_Check.f 2 B N = some 0) : 0 ≤ N ∧ N ≤ 40000 ∧ (B.length : Int) = (N + 7) / 8 := by
  unfold bits_Check.f at h
  by_cases h0 : N < 0
  · rw [if_pos h0] at h; simp [bits_Check.j0] at h
  · by_cases h1 : N > 40000
    · rw [if_neg h0, if_pos h1] at h; simp [bits_Check.j0] at h
    · rw [if_neg h0, if_neg h1] at h
      refine ⟨by omega, by omega, ?_⟩
      by_cases h2 : (B.length : Int) = (wrap64 (Int.tdiv (wrap64 ((wrap64 (N + 8)) - 1)) 8))
      · rw [h2, Int.tdiv_eq_ediv_of_nonneg (by unfold wrap64; omega)]
        unfold wrap64; omega
      · rw [bne_iff_ne.2 h2] at h; simp [bits_Check.j0] at h
theorem may_right {v n : Int} (h : bits_may.f v n = some true) : 0 ≤ n ∧ n ≤ 24 ∧ 0 ≤ v := by
  unfold bits_may.f at h
  by_cases h0 : n ≥ 0
  · by_cases h1 : n ≤ 24
    · by_cases h2 : v ≥ 0
      · exact ⟨h0, h1, h2⟩
      · rw [if_pos h0, if_pos h1, if_neg h2] at h; simp at h
    · rw [if_pos h0, if_neg h1] at h; simp at h
  · rw [if_neg h0] at h; simp at h
set_option maxHeartbeats 8000000 in
set_option maxRecDepth 100000 in
theorem bits_Put.calls (A0_0 : Option Addr) (c0_0 : Nat) (l0_0 : List Int) (a0_1 : Int) (a1 : Int) (a2 : Int) (r1 : List Int) (r2 : Int) (r3 : Int) (w : World) (hr0_0 : Kd.C (Kd.int .u8) w A0_0 l0_0.length l0_0) (hc0_0 : l0_0.length ≤ c0_0) (h : bits_Put.f l0_0 a0_1 a1 a2 = some (r1, r2, r3)) :
    Calls Try.prog 15 #[.agg #[.slice A0_0 l0_0.length c0_0, .int .i64 a0_1], .int .i64 a1, .int .i64 a2] w fun e w' => ∃ v0_ : Value, e = .returned (.tuple #[.agg #[v0_, .int .i64 r2], .int .i64 r3]) ∧ Kd.R (Kd.int .u8) 5 w' w.heap.size (fun _ => True) v0_ r1 ∧ Below w.heap.size w w' := by
  unfold bits_Put.f at h
  have HR := Aside0.mk hr0_0
  have HC := Aside0.mk hc0_0
  clear hr0_0 hc0_0
  obtain ⟨e, he, h⟩ := Option.bind_eq_some_iff.1 h
  have HE := Aside0.mk he
  clear he
  have hu := Try.underlying34
  have HB := Aside0.mk (Below.refl w.heap.size w)
  go_enter Try.func15, Try.ntmps15
  go_wp2_with (first
    | ((with_reducible refine gate_dst (N := 3) rfl ?_); refine box_event ?hg (N := 3) ?hd (cs := #[.slice A0_0 l0_0.length c0_0, .int .i64 a0_1]) (t := 34) ?hr ?_; (case hd => rfl); (case hg => rfl); (case hr => first | (go_simp; done) | (go_simp; rfl)); intro gS hg w1 hbox hb; (have BS := Aside0.mk hbox); (have GS := Aside0.mk (show w.heap.size ≤ gS from by omega)); (have HB1 := Aside0.mk (below_step HB.out hb)); (have HR1 := Aside0.mk (Kd.C_below HR.out hb)); clear HB hb hbox hg)
    | ((with_reducible refine gate_dst (N := 6) rfl ?_); refine box_event ?hg (N := 6) ?hd (cs := #[.slice none 0 0, .int .i64 0]) (t := 34) ?hr ?_; (case hd => rfl); (case hg => rfl); (case hr => first | (go_simp; done) | (go_simp; rfl)); intro gR hg w2 hbox hb; (have BR := Aside0.mk hbox); (have GR := Aside0.mk (show w.heap.size ≤ gR from by rw [hg]; exact below_size HB1.out)); (have NE := Aside0.mk (show gS ≠ gR from by have := blk_lt BS.out; omega)); (have BS2 := Aside0.mk (blk_below BS.out hb)); (have HB2 := Aside0.mk (below_step HB1.out hb)); (have HR2 := Aside0.mk (Kd.C_below HR1.out hb)); clear HB1 HR1 BS hb hbox hg; (have BS := BS2); (have HB := HB2); (have HR3 := HR2); clear BS2 HB2 HR2; (have hcs0 : w2.cell? ⟨gS, 0, none⟩ = some (.slice A0_0 l0_0.length c0_0) := (blk_cell BS.out 0).trans rfl); (have hcs1 : w2.cell? ⟨gS, 1, none⟩ = some (.int .i64 a0_1) := (blk_cell BS.out 1).trans rfl)))
  refine (bits_Check.calls 2 _ _ l0_0 a0_1 e w2 HR3.out HC.out HE.out).mono ?_
  rintro e1 w3 ⟨rfl, hb⟩
  have BS3 := Aside0.mk (blk_below BS.out hb)
  have BR3 := Aside0.mk (blk_below BR.out hb)
  have HB3 := Aside0.mk (below_step HB.out hb)
  have HR4 := Aside0.mk (Kd.C_below HR3.out hb)
  clear hcs0 hcs1 BS BR HB HR3 hb HR
  have hcr0 : w3.cell? ⟨gR, 0, none⟩ = some (.slice none 0 0) := (blk_cell BR3.out 0).trans rfl
  have hcr1 : w3.cell? ⟨gR, 1, none⟩ = some (.int .i64 0) := (blk_cell BR3.out 1).trans rfl
  have hfr0 := blk_frozen BR3.out 0
  have hfr1 := blk_frozen BR3.out 1
  by_cases h0 : e = 0
  · subst h0
    rw [if_pos rfl] at h
    obtain ⟨m, hm, h⟩ := Option.bind_eq_some_iff.1 h
    have HM := Aside0.mk hm
    clear hm
    go_wp2_with fail
    refine (bits_may.calls a1 a2 m _ HM.out).mono ?_
    rintro e1 w4 ⟨rfl, hd⟩
    have hb := hd.below
    have BS := Aside0.mk (blk_below BS3.out hb)
    have BR := Aside0.mk (blk_below BR3.out hb)
    have HB := Aside0.mk (below_step HB3.out hb)
    have HR := Aside0.mk (Kd.C_below HR4.out hb)
    clear hcr0 hcr1 hfr0 hfr1 BS3 BR3 HB3 HR4 hb hd
    have hcr0 : w4.cell? ⟨gR, 0, none⟩ = some (.slice none 0 0) := (blk_cell BR.out 0).trans rfl
    have hcr1 : w4.cell? ⟨gR, 1, none⟩ = some (.int .i64 0) := (blk_cell BR.out 1).trans rfl
    have hfr0 := blk_frozen BR.out 0
    have hfr1 := blk_frozen BR.out 1
    cases m with
    | false =>
      rw [if_neg (by decide)] at h
      simp only [Option.some.injEq, Prod.mk.injEq] at h
      obtain ⟨rfl, rfl, rfl⟩ := h
      go_wp2_with fail
      refine bodyPost_ret (results_ct rfl _ _ gR 34 #[.slice none 0 0, .int .i64 0] (0, 0) _ rfl (by (with_reducible repeat (first | refine blk_drewN ?_ _ | refine blk_drew ?_ | refine blk_alloc ?_ _)); refine blk_put (cs := #[.slice none 0 0, .int .i64 0]) ?_ 1 _ rfl; (with_reducible repeat (first | refine blk_drewN ?_ _ | refine blk_drew ?_ | refine blk_alloc ?_ _)); refine blk_put (cs := #[.slice none 0 0, .int .i64 0]) ?_ 0 _ rfl; (with_reducible repeat (first | refine blk_drewN ?_ _ | refine blk_drew ?_ | refine blk_alloc ?_ _)); exact BR.out) Try.underlying34 rfl (by kernel_rfl)) rfl ?_
      exact ⟨_, rfl, Kd.R_nil _ _ _ _ _, by repeat (first | (with_reducible first | exact HB.out | apply below_alloc | apply pw_below_drewN | apply below_drew1 | refine below_set ?_ GR.out | refine below_set ?_ GS.out) | exact HB.out)⟩
    | true =>
      rw [if_pos rfl] at h
      have hcs0 : w4.cell? ⟨gS, 0, none⟩ = some (.slice A0_0 l0_0.length c0_0) := (blk_cell BS.out 0).trans rfl
      have hcs1 : w4.cell? ⟨gS, 1, none⟩ = some (.int .i64 a0_1) := (blk_cell BS.out 1).trans rfl
      obtain ⟨ck0, ck1, ck2⟩ := check_right HE.out
      obtain ⟨mr0, mr1, mr2⟩ := may_right HM.out
      obtain ⟨N, rfl⟩ := Int.eq_ofNat_of_zero_le ck0
      obtain ⟨n2, rfl⟩ := Int.eq_ofNat_of_zero_le mr0
      rw [Int.toNat_natCast, Int.toNat_natCast] at h
      by_cases hl : (n2 : Int) > 40000 - (N : Int)
      · rw [if_pos hl] at h
        simp only [Option.some.injEq, Prod.mk.injEq] at h
        obtain ⟨rfl, rfl, rfl⟩ := h
        go_wp2_with fail
        refine bodyPost_ret (results_ct rfl _ _ gR 34 #[.slice none 0 0, .int .i64 0] (0, 0) _ rfl (by (with_reducible repeat (first | refine blk_drewN ?_ _ | refine blk_drew ?_ | refine blk_alloc ?_ _)); refine blk_put (cs := #[.slice none 0 0, .int .i64 0]) ?_ 1 _ rfl; (with_reducible repeat (first | refine blk_drewN ?_ _ | refine blk_drew ?_ | refine blk_alloc ?_ _)); refine blk_put (cs := #[.slice none 0 0, .int .i64 0]) ?_ 0 _ rfl; (with_reducible repeat (first | refine blk_drewN ?_ _ | refine blk_drew ?_ | refine blk_alloc ?_ _)); exact BR.out) Try.underlying34 rfl (by kernel_rfl)) rfl ?_
        exact ⟨_, rfl, Kd.R_nil _ _ _ _ _, by repeat (first | (with_reducible first | exact HB.out | apply below_alloc | apply pw_below_drewN | apply below_drew1 | refine below_set ?_ GR.out | refine below_set ?_ GS.out) | exact HB.out)⟩
      · rw [if_neg hl] at h
        simp only [Option.some.injEq, Prod.mk.injEq] at h
        have HH := Aside0.mk h
        clear h
        have CK := Aside0.mk ck2
        clear ck2
        go_wp2_with fail
        have HF := Aside0.mk (show slices_Clone_byte_byte.f l0_0 = some l0_0 from by unfold slices_Clone_byte_byte.f; rw [if_pos (by have := CK.out; omega)])
        go_region_held3 (fun w' => w'.cell? ⟨gS, 0, none⟩ = some (.slice A0_0 l0_0.length c0_0) ∧ w'.cell? ⟨gS, 1, none⟩ = some (.int .i64 (N : Int))) (go_keep)
          (first | (go_at_call 23; refine (slices_Clone_byte_byte.calls _ _ l0_0 l0_0 w4.drew (Kd.C_drew HR.out) HC.out HF.out).mono ?_; rintro e1 w5 ⟨v5, rfl, ho, hb⟩; (obtain ⟨A5, c5, e5⟩ := Kd.R_slice ho); (subst e5); (have hb2 : Below w4.heap.size w4 w5 := (below_drew (Below.refl _ _)).trans hb); (have hcs0' : w5.cell? ⟨gS, 0, none⟩ = some (.slice A0_0 l0_0.length c0_0) := (blk_cell (blk_below BS.out hb2) 0).trans rfl); (have hcs1' : w5.cell? ⟨gS, 1, none⟩ = some (.int .i64 (N : Int)) := (blk_cell (blk_below BS.out hb2) 1).trans rfl); (have HO5 := Aside0.mk ho); (have HB5 := Aside0.mk hb2); clear hb hb2 ho))
        have HB6 : Aside0 (Below w.heap.size w (w5.alloc (.cells #[.slice A5 l0_0.length c5, .int .i64 (N : Int)] 54 (0, 0)))) := ⟨below_alloc (below_step HB.out HB5.out) _⟩
        have hs4 : w.heap.size ≤ w4.heap.size := below_size HB.out
        have hs5 : w4.heap.size ≤ w5.heap.size := HB5.out.size
        have HN6 : Aside0 ((w5.alloc (.cells #[.slice A5 l0_0.length c5, .int .i64 (N : Int)] 54 (0, 0))).heap[w5.heap.size]? = some (.cells #[.slice A5 l0_0.length c5, .int .i64 (N : Int)] 54 (0, 0))) := ⟨blk_new w5 _⟩
        have HO6 : Aside0 (Kd.R (Kd.int .u8) 5 (w5.alloc (.cells #[.slice A5 l0_0.length c5, .int .i64 (N : Int)] 54 (0, 0))) w.heap.size (fun k => w4.heap.size ≤ k) (.slice A5 l0_0.length c5) l0_0) := ⟨Kd.R_alloc (Kd.R_lower (Kd.R_mono (Kd.R_bound HO5.out) (fun k hk => hk.2.1)) hs4) _⟩
        have BR6 : Aside0 ((w5.alloc (.cells #[.slice A5 l0_0.length c5, .int .i64 (N : Int)] 54 (0, 0))).heap[gR]? = some (.cells #[.slice none 0 0, .int .i64 0] 34 (0, 0))) := ⟨blk_alloc (blk_below BR.out HB5.out) _⟩
        have hlt6 := blk_lt BR.out
        have hs6 : (w5.alloc (.cells #[.slice A5 l0_0.length c5, .int .i64 (N : Int)] 54 (0, 0))).heap.size = w5.heap.size + 1 := by simp
        have HS6 := Aside0.mk hs6
        clear hcr0 hcr1 hfr0 hfr1 hcs0 hcs1 hs6 HB BR BS HB5 HO5 HR hcs0' hcs1'
        go_wp2_with fail
        generalize (w5.alloc (.cells #[.slice A5 l0_0.length c5, .int .i64 (N : Int)] 54 (0, 0))) = w6 at HB6 HN6 HO6 BR6 HS6 ⊢
        refine (pen_add 54 (by decide) w5.heap.size (fun k => w4.heap.size ≤ k) _ l0_0 a1 N n2 w w6 HB6.out HN6.out (by omega) HO6.out (by omega) (by omega) (fun h8 hn => by have := CK.out; rw [hn] at this; simp at this; omega) (by have := CK.out; omega)).mono ?_
        rintro e1 w7 ⟨v7, rfl, hn7, ho7, hb7, hk7⟩
        obtain ⟨A7, c7, e7⟩ := Kd.R_slice ho7
        subst e7
        have BR := Aside0.mk ((hk7.2 gR (by have := HS6.out; omega) (by omega)).trans BR6.out)
        have HB := Aside0.mk hb7
        have HO7 := Aside0.mk ho7
        have NE7 : gR ≠ w5.heap.size := by omega
        have hcn0 : w7.cell? ⟨w5.heap.size, 0, none⟩ = some (.slice A7 (padd a1 n2 0 l0_0 N).length c7) := (blk_cell hn7 0).trans rfl
        have hcn1 : w7.cell? ⟨w5.heap.size, 1, none⟩ = some (.int .i64 ((N + n2 : Nat) : Int)) := (blk_cell hn7 1).trans rfl
        have hcr0 : w7.cell? ⟨gR, 0, none⟩ = some (.slice none 0 0) := (blk_cell BR.out 0).trans rfl
        have hcr1 : w7.cell? ⟨gR, 1, none⟩ = some (.int .i64 0) := (blk_cell BR.out 1).trans rfl
        have hfr0 := blk_frozen BR.out 0
        have hfr1 := blk_frozen BR.out 1
        clear ho7 hn7 hb7 hk7 HB6 HN6 HO6 BR6 HS6
        generalize w5.heap.size = g7 at *
        go_wp2_with fail
        refine bodyPost_ret (results_ct rfl _ _ gR 34 #[.slice A7 (padd a1 n2 0 l0_0 N).length c7, .int .i64 ((N : Int) + (n2 : Int))] (0, 0) _ rfl (by (with_reducible repeat (first | refine blk_drewN ?_ _ | refine blk_drew ?_ | refine blk_alloc ?_ _)); refine blk_put (cs := #[.slice A7 (padd a1 n2 0 l0_0 N).length c7, .int .i64 0]) ?_ 1 _ rfl; (with_reducible repeat (first | refine blk_drewN ?_ _ | refine blk_drew ?_ | refine blk_alloc ?_ _)); refine blk_put (cs := #[.slice none 0 0, .int .i64 0]) ?_ 0 _ rfl; (with_reducible repeat (first | refine blk_drewN ?_ _ | refine blk_drew ?_ | refine blk_alloc ?_ _)); exact BR.out) Try.underlying34 rfl (by kernel_rfl)) rfl ?_
        obtain ⟨rfl, rfl, rfl⟩ := HH.out
        exact ⟨_, rfl, Kd.R_mono (Kd.R_far (p := ⟨gR, 1, none⟩) (Kd.R_far (p := ⟨gR, 0, none⟩) (Kd.R_types HO7.out BR.out (by decide)) (fun _ hk => hk.2) _) (fun _ hk => hk.2) _) (fun _ _ => trivial), by repeat (first | (with_reducible first | exact HB.out | apply below_alloc | apply pw_below_drewN | apply below_drew1 | refine below_set ?_ GR.out | refine below_set ?_ GS.out) | exact HB.out)⟩
  · rw [if_neg h0] at h
    simp only [Option.some.injEq, Prod.mk.injEq] at h
    obtain ⟨rfl, rfl, rfl⟩ := h
    have hb0 : (e != 0) = true := bne_iff_ne.2 h0
    have BR := BR3
    have HB := HB3
    clear BR3 HB3
    go_wp2_with fail
    refine bodyPost_ret (results_ct rfl _ _ gR 34 #[.slice none 0 0, .int .i64 0] (0, 0) _ rfl (by (with_reducible repeat (first | refine blk_drewN ?_ _ | refine blk_drew ?_ | refine blk_alloc ?_ _)); refine blk_put (cs := #[.slice none 0 0, .int .i64 0]) ?_ 1 _ rfl; (with_reducible repeat (first | refine blk_drewN ?_ _ | refine blk_drew ?_ | refine blk_alloc ?_ _)); refine blk_put (cs := #[.slice none 0 0, .int .i64 0]) ?_ 0 _ rfl; (with_reducible repeat (first | refine blk_drewN ?_ _ | refine blk_drew ?_ | refine blk_alloc ?_ _)); exact BR.out) Try.underlying34 rfl (by kernel_rfl)) rfl ?_
    exact ⟨_, rfl, Kd.R_nil _ _ _ _ _, by repeat (first | (with_reducible first | exact HB.out | apply below_alloc | apply pw_below_drewN | apply below_drew1 | refine below_set ?_ GR.out | refine below_set ?_ GS.out) | exact HB.out)⟩

-- PART
end Go.Proofs.Ytcjijhjdkgjgeaa.P
