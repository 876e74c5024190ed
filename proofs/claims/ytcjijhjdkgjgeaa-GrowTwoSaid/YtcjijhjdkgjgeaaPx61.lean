-- Written by a program of this session out of the translation. Lean checks it.
import Derived.Test.YtcjijhjdkgjgeaaPx0
import Derived.Test.YtcjijhjdkgjgeaaPx46
import Derived.Test.YtcjijhjdkgjgeaaPx16
import Derived.Test.YtcjijhjdkgjgeaaPx31
import Derived.Test.YtcjijhjdkgjgeaaPx1
namespace Go.Proofs.Ytcjijhjdkgjgeaa.P
open Go.RowKit Go.Proofs.YtcjijhjdkgjgeaaW.PrintWords Go.Proofs.YtcjijhjdkgjgeaaW.PrintLast Go.Proofs.YtcjijhjdkgjgeaaW.PrintMore
attribute [local go_sem] max2_int min2_int max_two min_two max_three min_three max_four min_four   -- for this text's walks alone
set_option linter.unusedVariables false
set_option linter.unusedSimpArgs false

/-! ### shrink_steps: function 38 -/
mutual
def shrink_steps.l0 : Nat → List Int → List (S87) → Int → Int → Option ((List (S87)))
  | 0, _, _, _, _ => none
  | k + 1, x0, x3, x4, x5 => if x5 < (x0.length : Int) then (shrink_steps.l1 k x0 x3 x4 x5 1) else (some x3)
def shrink_steps.l1 : Nat → List Int → List (S87) → Int → Int → Int → Option ((List (S87)))
  | 0, _, _, _, _, _ => none
  | k + 1, x0, x3, x4, x5, x6 => if (wrap64 (x5 + x6)) < (x0.length : Int) then (if 0 ≤ (wrap64 (x5 + x6)) then (if 0 ≤ x5 then (if x5 < (x0.length : Int) then (if (rd x0 (wrap64 (x5 + x6))) = (rd x0 x5) then (shrink_steps.l1 k x0 x3 x4 x5 (wrap64 (x6 + 1))) else ((shrink_next.f k (rd x0 x5) x4 x6).bind fun bt184 => (if x3.length < 4398046511104 then (shrink_steps.l0 k x0 (x3 ++ [(⟨bt184.1, bt184.2.1, bt184.2.2.1, bt184.2.2.2⟩ : S87)]) (rd x0 x5) (wrap64 (x5 + bt184.2.2.2))) else (none)))) else (none)) else (none)) else (none)) else (if 0 ≤ x5 then (if x5 < (x0.length : Int) then ((shrink_next.f k (rd x0 x5) x4 x6).bind fun bt194 => (if x3.length < 4398046511104 then (shrink_steps.l0 k x0 (x3 ++ [(⟨bt194.1, bt194.2.1, bt194.2.2.1, bt194.2.2.2⟩ : S87)]) (rd x0 x5) (wrap64 (x5 + bt194.2.2.2))) else (none))) else (none)) else (none))
end
def shrink_steps.f (k : Nat) (l0 : List Int) : Option ((List (S87))) := shrink_steps.l0 k l0 ([] : List (S87)) (-1) 0
set_option maxHeartbeats 8000000 in
set_option maxRecDepth 100000 in
theorem shrink_steps.calls (k : Nat) (A0 : Option Addr) (c0 : Nat) (l0 : List Int) (r : List (S87)) (w : World) (hr0 : Kd.C (Kd.int .i64) w A0 l0.length l0) (hc0 : l0.length ≤ c0) (h : shrink_steps.f k l0 = some r) :
    Calls Try.prog 38 #[.slice A0 l0.length c0] w fun e w' => ∃ v0_ : Value, e = .returned (v0_) ∧ Kd.R k87 87 w' w.heap.size (fun _ => True) v0_ r ∧ Below w.heap.size w w' := by
  have hu87 := Try.underlying87
  have HR0 := Aside0.mk hr0
  have HC0 := Aside0.mk hc0
  clear hr0 hc0
  have HB := Aside0.mk (Below.refl w.heap.size w)
  have H : (shrink_steps.l0 k l0 ([] : List (S87)) (-1) 0) = some r := h
  clear h
  have H' := Aside0.mk H
  clear H
  go_enter Try.func38, Try.ntmps38
  go_wp2
  repeat (go_quiet (fail); try go_wp2)
  go_loopg [3, 4, 5] k (fun kq v3 v4 v5 w' => ∃ (x3_1 : List (S87)) (x4_1 : Int) (x5_1 : Int), v4 = .int .i64 x4_1 ∧ v5 = .int .i64 x5_1 ∧ Aside0 (shrink_steps.l0 kq l0 x3_1 x4_1 x5_1 = some r) ∧ Aside0 (kq ≤ k) ∧ Aside0 (Kd.R k87 87 w' w.heap.size (fun _ => True) v3 x3_1) ∧ Aside0 (Below w.heap.size w w'))
  case atStart => exact ⟨(([] : List (S87))), ((-1)), (0), (by first | rfl | (simp; done) | (simp [*]; done)), (by first | rfl | (simp; done) | (simp [*]; done)), H', ⟨Nat.le_refl _⟩, ⟨by first | exact Kd.R_nil _ _ _ _ _ | exact Kd.N_nil _ _ _ _ _ | exact Kd.V_nil _ _ _ _ _ | exact Kd.Q_nil _ _ _ _ _ | exact Kd.S_nil _ _ _ _ _⟩, ⟨by repeat (first | (with_reducible first | exact HB.out | apply below_alloc | apply pw_below_drewN | apply below_drew1) | exact HB.out)⟩⟩
  case round =>
    clear H'
    obtain ⟨x3_1, x4_1, x5_1, rfl, rfl, HA, HK1, HO_3, HB⟩ := hrel
    cases gk with
    | zero => exact absurd HA.out (by simp [shrink_steps.l0])
    | succ k1 =>
      have H := HA.out
      clear HA
      simp only [shrink_steps.l0] at H
      by_cases c2 : x5_1 < (l0.length : Int)
      · rw [if_pos c2] at H
        have c2b0 : decide (x5_1 < (l0.length : Int)) = true := decide_eq_true c2
        clear c2
        have H' := Aside0.mk H
        clear H
        go_wp2
        repeat (go_quiet (fail); try go_wp2)
        go_loopg [6] k1 (fun kq v6 w' => ∃ (x6_2 : Int), v6 = .int .i64 x6_2 ∧ Aside0 (shrink_steps.l1 kq l0 x3_1 x4_1 x5_1 x6_2 = some r) ∧ Aside0 (kq ≤ k1) ∧ Aside0 (Kd.R k87 87 w' w.heap.size (fun _ => True) u3 x3_1) ∧ Aside0 (Below w.heap.size w w'))
        case atStart => exact ⟨(1), (by first | rfl | (simp; done) | (simp [*]; done)), H', ⟨Nat.le_refl _⟩, ⟨by (with_reducible repeat (first | apply Kd.R_alloc | apply Kd.R_drewN | apply Kd.R_drew)); exact HO_3.out⟩, ⟨by repeat (first | (with_reducible first | exact HB.out | apply below_alloc | apply pw_below_drewN | apply below_drew1) | exact HB.out)⟩⟩
        case round =>
          clear H'
          try clear c2
          try clear c2b0
          try clear p2
          obtain ⟨x6_2, rfl, HA, HK2, HO_3, HB⟩ := hrel
          cases gk with
          | zero => exact absurd HA.out (by simp [shrink_steps.l1])
          | succ k2 =>
            have H := HA.out
            clear HA
            simp only [shrink_steps.l1] at H
            by_cases c3 : (wrap64 (x5_1 + x6_2)) < (l0.length : Int)
            · rw [if_pos c3] at H
              have c3b0 : decide ((wrap64 (x5_1 + x6_2)) < (l0.length : Int)) = true := decide_eq_true c3
              clear c3
              obtain ⟨ji4, hji4⟩ : ∃ j_ : Int, (wrap64 (x5_1 + x6_2)) = j_ := ⟨_, rfl⟩
              replace H : (if 0 ≤ (ji4) then (if 0 ≤ x5_1 then (if x5_1 < (l0.length : Int) then (if (rd l0 (ji4)) = (rd l0 x5_1) then (shrink_steps.l1 k2 l0 x3_1 x4_1 x5_1 (wrap64 (x6_2 + 1))) else ((shrink_next.f k2 (rd l0 x5_1) x4_1 x6_2).bind fun bt184 => (if x3_1.length < 4398046511104 then (shrink_steps.l0 k2 l0 (x3_1 ++ [(⟨bt184.1, bt184.2.1, bt184.2.2.1, bt184.2.2.2⟩ : S87)]) (rd l0 x5_1) (wrap64 (x5_1 + bt184.2.2.2))) else (none)))) else (none)) else (none)) else (none)) = some r := by first | (rw [hji4] at H; exact H) | (simp only [hji4] at H ⊢; exact H)
              (try rw [hji4] at c3b0)
              have hji4w : (IntKind.i64.wrap (x5_1 + x6_2)) = ji4 := (i64_w _).trans hji4
              by_cases c5 : 0 ≤ (ji4)
              · rw [if_pos c5] at H
                have c5b0 : decide (0 ≤ (ji4)) = true := decide_eq_true c5
                clear c5
                by_cases c6 : 0 ≤ x5_1
                · rw [if_pos c6] at H
                  have c6b0 : decide (0 ≤ x5_1) = true := decide_eq_true c6
                  clear c6
                  by_cases c7 : x5_1 < (l0.length : Int)
                  · rw [if_pos c7] at H
                    have c7b0 : decide (x5_1 < (l0.length : Int)) = true := decide_eq_true c7
                    clear c7
                    by_cases c8 : (rd l0 (ji4)) = (rd l0 x5_1)
                    · rw [if_pos c8] at H
                      have c8b0 : ((rd l0 (ji4)) == (rd l0 x5_1)) = true := beq_iff_eq.mpr c8
                      have c8b1 : ((rd l0 (ji4)) != (rd l0 x5_1)) = false := bne_eq_false_iff_eq.mpr c8
                      clear c8
                      have H' := Aside0.mk H
                      clear H
                      have p181 : 0 ≤ ((ji4) : Int) := of_decide_eq_true (by first | (with_reducible assumption) | assumption)
                      have q181 : (ji4) < (l0.length : Int) := of_decide_eq_true (by first | (with_reducible assumption) | assumption)
                      obtain ⟨ad181, e181, hx181_0⟩ := Kd.at_int HR0.out (ji4) p181 q181
                      cases e181
                      replace hx181_0 := (HB.out.cell (World.block_lt_of_cell? w _ hx181_0)).trans hx181_0
                      replace p181 := eq_true p181
                      replace q181 := eq_true q181
                      have p182 : 0 ≤ (x5_1 : Int) := of_decide_eq_true (by first | (with_reducible assumption) | assumption)
                      have q182 : x5_1 < (l0.length : Int) := of_decide_eq_true (by first | (with_reducible assumption) | assumption)
                      obtain ⟨ad182, e182, hx182_0⟩ := Kd.at_int HR0.out x5_1 p182 q182
                      obtain rfl : ad181 = ad182 := (by injection e182)
                      replace hx182_0 := (HB.out.cell (World.block_lt_of_cell? w _ hx182_0)).trans hx182_0
                      replace p182 := eq_true p182
                      replace q182 := eq_true q182
                      go_wp2
                      repeat (go_quiet (fail); try go_wp2)
                      go_roundg k2
                      case measure => have := HK1.out; have := HK2.out; omega
                      case rel => exact ⟨(wrap64 (x6_2 + 1)), (by first | rfl | (simp; done) | (simp [*]; done)), H', ⟨by have := HK1.out; have := HK2.out; omega⟩, ⟨by (with_reducible repeat (first | apply Kd.R_alloc | apply Kd.R_drewN | apply Kd.R_drew)); exact HO_3.out⟩, ⟨by repeat (first | (with_reducible first | exact HB.out | apply below_alloc | apply pw_below_drewN | apply below_drew1) | exact HB.out)⟩⟩
                    · rw [if_neg c8] at H
                      have c8b0 : ((rd l0 (ji4)) == (rd l0 x5_1)) = false := beq_eq_false_iff_ne.mpr c8
                      have c8b1 : ((rd l0 (ji4)) != (rd l0 x5_1)) = true := bne_iff_ne.mpr c8
                      replace H := Option.bind_eq_some_iff.mp H
                      obtain ⟨⟨t184, t185, t186, t187⟩, A90, H⟩ := H
                      replace H : (if x3_1.length < 4398046511104 then (shrink_steps.l0 k2 l0 (x3_1 ++ [(⟨t184, t185, t186, t187⟩ : S87)]) (rd l0 x5_1) (wrap64 (x5_1 + t187))) else (none)) = some r := H
                      have A9 := Aside0.mk A90
                      clear A90
                      by_cases c10 : x3_1.length < 4398046511104
                      · rw [if_pos c10] at H
                        have LMc10 := Aside0.mk c10
                        clear c10
                        obtain ⟨y189, hy189⟩ : ∃ y_ : List (S87), y_ = (x3_1 ++ [(⟨t184, t185, t186, t187⟩ : S87)]) := ⟨_, rfl⟩
                        replace H : (shrink_steps.l0 k2 l0 y189 (rd l0 x5_1) (wrap64 (x5_1 + t187))) = some r := by first | (rw [hy189]; with_reducible exact H) | (have H2_ := (Option.bind_some _ _).symm.trans H; rw [hy189]; with_reducible exact H2_) | (have H2_ := (Option.bind_some _ _).symm.trans H; with_reducible exact H2_) | with_reducible exact H | (rw [hy189]; exact H) | exact H
                        have Ny189 := Aside0.mk hy189
                        clear hy189
                        have H' := Aside0.mk H
                        clear H
                        have p181 : 0 ≤ ((ji4) : Int) := of_decide_eq_true (by first | (with_reducible assumption) | assumption)
                        have q181 : (ji4) < (l0.length : Int) := of_decide_eq_true (by first | (with_reducible assumption) | assumption)
                        obtain ⟨ad181, e181, hx181_0⟩ := Kd.at_int HR0.out (ji4) p181 q181
                        cases e181
                        replace hx181_0 := (HB.out.cell (World.block_lt_of_cell? w _ hx181_0)).trans hx181_0
                        replace p181 := eq_true p181
                        replace q181 := eq_true q181
                        have p182 : 0 ≤ (x5_1 : Int) := of_decide_eq_true (by first | (with_reducible assumption) | assumption)
                        have q182 : x5_1 < (l0.length : Int) := of_decide_eq_true (by first | (with_reducible assumption) | assumption)
                        obtain ⟨ad182, e182, hx182_0⟩ := Kd.at_int HR0.out x5_1 p182 q182
                        obtain rfl : ad181 = ad182 := (by injection e182)
                        replace hx182_0 := (HB.out.cell (World.block_lt_of_cell? w _ hx182_0)).trans hx182_0
                        replace p182 := eq_true p182
                        replace q182 := eq_true q182
                        have p183 : 0 ≤ (x5_1 : Int) := of_decide_eq_true (by first | (with_reducible assumption) | assumption)
                        have q183 : x5_1 < (l0.length : Int) := of_decide_eq_true (by first | (with_reducible assumption) | assumption)
                        obtain ⟨ad183, e183, hx183_0⟩ := Kd.at_int HR0.out x5_1 p183 q183
                        obtain rfl : ad181 = ad183 := (by injection e183)
                        replace hx183_0 := (HB.out.cell (World.block_lt_of_cell? w _ hx183_0)).trans hx183_0
                        replace p183 := eq_true p183
                        replace q183 := eq_true q183
                        go_wp2_with (first | (go_at_call 58; (with_reducible refine (shrink_next.calls k2 (rd l0 x5_1) x4_1 x6_2 t184 t185 t186 t187 _ A9.out).mono ?_); rintro e w11 ⟨rfl, hb⟩; have n0_ := Aside0.mk (Kd.R_below (by (with_reducible repeat (first | apply Kd.R_alloc | apply Kd.R_drewN | apply Kd.R_drew)); exact HO_3.out) hb); have n1_ := Aside0.mk (below_step (by repeat (first | (with_reducible first | exact HB.out | apply below_alloc | apply pw_below_drewN | apply below_drew1) | exact HB.out)) hb); clear HO_3; clear HB; have HO_3 := n0_; have HB := n1_; clear n0_ n1_; (try clear hb); (try clear hb2); (try clear hk); (try clear hi)) | ((with_reducible refine gate_dst (N := 7) rfl ?_); refine box_event ?hg (N := 7) ?hd (cs := #[.int .i64 0, .int .i64 0, .int .i64 0, .int .i64 0]) (t := 87) ?hr ?_; (case hd => rfl); (case hg => rfl); (case hr => first | (go_simp; done) | (go_simp; rfl)); intro gb188 hg w12 hbox hb; have n0_ := Aside0.mk (Kd.R_below (Kd.R_elderB (by (with_reducible repeat (first | apply Kd.R_alloc | apply Kd.R_drewN | apply Kd.R_drew)); exact HO_3.out) gb188 (Nat.le_of_eq hg.symm)) hb); have n1_ := Aside0.mk (below_step (by repeat (first | (with_reducible first | exact HB.out | apply below_alloc | apply pw_below_drewN | apply below_drew1) | exact HB.out)) hb); have n2_ := Aside0.mk (hbox); have n3_ := Aside0.mk ((by rw [hg]; exact (below_size (by repeat (first | (with_reducible first | exact HB.out | apply below_alloc | apply pw_below_drewN | apply below_drew1) | exact HB.out))) : w.heap.size ≤ gb188)); have n4_ := Aside0.mk ((by rw [hg]; exact (below_size (by repeat (first | (with_reducible first | exact HB.out | apply below_alloc | apply pw_below_drewN | apply below_drew1) | exact HB.out))) : w.heap.size ≤ gb188)); clear HO_3; clear HB; have HO_3 := n0_; have HB := n1_; have BK188 := n2_; have GW188 := n3_; have GE188 := n4_; clear n0_ n1_ n2_ n3_ n4_; clear hb hbox hg; have hcz13_0 : w12.cell? ⟨gb188, 0, none⟩ = some (.int .i64 0) := (blk_cell BK188.out 0).trans rfl; have hcz13_1 : w12.cell? ⟨gb188, 1, none⟩ = some (.int .i64 0) := (blk_cell BK188.out 1).trans rfl; have hcz13_2 : w12.cell? ⟨gb188, 2, none⟩ = some (.int .i64 0) := (blk_cell BK188.out 2).trans rfl; have hcz13_3 : w12.cell? ⟨gb188, 3, none⟩ = some (.int .i64 0) := (blk_cell BK188.out 3).trans rfl; have hfz13_0 := blk_frozen BK188.out 0; have hfz13_1 := blk_frozen BK188.out 1; have hfz13_2 := blk_frozen BK188.out 2; have hfz13_3 := blk_frozen BK188.out 3) | ((with_reducible refine gate_builtin (b := .append) (xs := #[.tmp 40, .tmp 42]) rfl ?_); at_builtin; refine Kd.R_append k87 (w0 := w) w.heap.size rfl (.tmp 40) (.tmp 42) 82 87 (.agg #[(.int .i64 0), (.int .i64 0), (.int .i64 0), (.int .i64 0)]) 32 rfl Try.underlying82 info87 rfl (by decide) (by omega) u3 x3_1 (⟨t184, t185, t186, t187⟩ : S87) [.int .i64 t184, .int .i64 t185, .int .i64 t186, .int .i64 t187] (fun k_ => k_ ≠ gb188) (fun _ => False) rfl (by first | (go_simp; done) | (go_simp; rfl)) ?aP (fun _ hk => hk.elim) ?aF ?aO ?aB ?aS ?aL ?_; (case aP => exact k87_mkM _ _ _ (⟨t184, t185, t186, t187⟩ : S87)); (case aB => exact (by repeat (first | (with_reducible first | exact HB.out | apply below_alloc | apply pw_below_drewN | apply below_drew1 | refine below_set ?_ GE188.out) | exact HB.out))); (case aF => exact (fun k_ hk => Kd.freshB (g := gb188) (o := .cells #[.int .i64 t184, .int .i64 t185, .int .i64 t186, .int .i64 t187] 87 (0, 0)) (by (with_reducible repeat (first | refine blk_drewN ?_ _ | refine blk_drew ?_ | refine blk_alloc ?_ _)); refine blk_put (cs := #[.int .i64 t184, .int .i64 t185, .int .i64 t186, .int .i64 0]) ?_ 3 _ rfl; (with_reducible repeat (first | refine blk_drewN ?_ _ | refine blk_drew ?_ | refine blk_alloc ?_ _)); refine blk_put (cs := #[.int .i64 t184, .int .i64 t185, .int .i64 0, .int .i64 0]) ?_ 2 _ rfl; (with_reducible repeat (first | refine blk_drewN ?_ _ | refine blk_drew ?_ | refine blk_alloc ?_ _)); refine blk_put (cs := #[.int .i64 t184, .int .i64 0, .int .i64 0, .int .i64 0]) ?_ 1 _ rfl; (with_reducible repeat (first | refine blk_drewN ?_ _ | refine blk_drew ?_ | refine blk_alloc ?_ _)); refine blk_put (cs := #[.int .i64 0, .int .i64 0, .int .i64 0, .int .i64 0]) ?_ 0 _ rfl; (with_reducible repeat (first | refine blk_drewN ?_ _ | refine blk_drew ?_ | refine blk_alloc ?_ _)); exact BK188.out) k_ hk)); (case aO => exact (by (with_reducible repeat (first | apply Kd.R_alloc | apply Kd.R_drewN | apply Kd.R_drew)); exact Kd.R_mono (Kd.R_far (p := ⟨gb188, 3, none⟩) (Kd.R_far (p := ⟨gb188, 2, none⟩) (Kd.R_far (p := ⟨gb188, 1, none⟩) (Kd.R_far (p := ⟨gb188, 0, none⟩) (Kd.R_mono HO_3.out (fun k_ hk => (⟨hk, hk.2⟩ : _ ∧ k_ ≠ gb188))) (fun _ hk => hk.2) (.int .i64 t184)) (fun _ hk => hk.2) (.int .i64 t185)) (fun _ hk => hk.2) (.int .i64 t186)) (fun _ hk => hk.2) (.int .i64 t187)) (fun _ hk => hk.1.2))); (case aS => exact (below_size (by repeat (first | (with_reducible first | exact HB.out | apply below_alloc | apply pw_below_drewN | apply below_drew1 | refine below_set ?_ GE188.out) | exact HB.out)))); (case aL => have := LMc10.out; omega); intro v190 w14 ho hb hg hat; rw [← Ny189.out] at ho; have n0_ := Aside0.mk (blk_grown (g := gb188) (o := .cells #[.int .i64 t184, .int .i64 t185, .int .i64 t186, .int .i64 t187] 87 (0, 0)) (by (with_reducible repeat (first | refine blk_drewN ?_ _ | refine blk_drew ?_ | refine blk_alloc ?_ _)); refine blk_put (cs := #[.int .i64 t184, .int .i64 t185, .int .i64 t186, .int .i64 0]) ?_ 3 _ rfl; (with_reducible repeat (first | refine blk_drewN ?_ _ | refine blk_drew ?_ | refine blk_alloc ?_ _)); refine blk_put (cs := #[.int .i64 t184, .int .i64 t185, .int .i64 0, .int .i64 0]) ?_ 2 _ rfl; (with_reducible repeat (first | refine blk_drewN ?_ _ | refine blk_drew ?_ | refine blk_alloc ?_ _)); refine blk_put (cs := #[.int .i64 t184, .int .i64 0, .int .i64 0, .int .i64 0]) ?_ 1 _ rfl; (with_reducible repeat (first | refine blk_drewN ?_ _ | refine blk_drew ?_ | refine blk_alloc ?_ _)); refine blk_put (cs := #[.int .i64 0, .int .i64 0, .int .i64 0, .int .i64 0]) ?_ 0 _ rfl; (with_reducible repeat (first | refine blk_drewN ?_ _ | refine blk_drew ?_ | refine blk_alloc ?_ _)); exact BK188.out) hg (Kd.R_away HO_3.out (fun _ hk => hk.2))); have n1_ := Aside0.mk (hb); have n2_ := Aside0.mk (ho); clear BK188; clear HB; clear HO_3; have BK188 := n0_; have HB := n1_; have HO191 := n2_; clear n0_ n1_ n2_; clear ho hb hg hat; have p192 : 0 ≤ (x5_1 : Int) := of_decide_eq_true (by first | (with_reducible assumption) | assumption); have q192 : x5_1 < (l0.length : Int) := of_decide_eq_true (by first | (with_reducible assumption) | assumption); obtain ⟨ad192, e192, hx192_0⟩ := Kd.at_int HR0.out x5_1 p192 q192; obtain rfl : ad181 = ad192 := (by injection e192); replace hx192_0 := (HB.out.cell (World.block_lt_of_cell? w _ hx192_0)).trans hx192_0; replace p192 := eq_true p192; replace q192 := eq_true q192; have hcz15_0 : w14.cell? ⟨gb188, 0, none⟩ = some (.int .i64 t184) := (blk_cell BK188.out 0).trans rfl; have hcz15_1 : w14.cell? ⟨gb188, 1, none⟩ = some (.int .i64 t185) := (blk_cell BK188.out 1).trans rfl; have hcz15_2 : w14.cell? ⟨gb188, 2, none⟩ = some (.int .i64 t186) := (blk_cell BK188.out 2).trans rfl; have hcz15_3 : w14.cell? ⟨gb188, 3, none⟩ = some (.int .i64 t187) := (blk_cell BK188.out 3).trans rfl; have hfz15_0 := blk_frozen BK188.out 0; have hfz15_1 := blk_frozen BK188.out 1; have hfz15_2 := blk_frozen BK188.out 2; have hfz15_3 := blk_frozen BK188.out 3))
                        repeat (go_quiet (first | (go_at_call 58; (with_reducible refine (shrink_next.calls k2 (rd l0 x5_1) x4_1 x6_2 t184 t185 t186 t187 _ A9.out).mono ?_); rintro e w11 ⟨rfl, hb⟩; have n0_ := Aside0.mk (Kd.R_below (by (with_reducible repeat (first | apply Kd.R_alloc | apply Kd.R_drewN | apply Kd.R_drew)); exact HO_3.out) hb); have n1_ := Aside0.mk (below_step (by repeat (first | (with_reducible first | exact HB.out | apply below_alloc | apply pw_below_drewN | apply below_drew1) | exact HB.out)) hb); clear HO_3; clear HB; have HO_3 := n0_; have HB := n1_; clear n0_ n1_; (try clear hb); (try clear hb2); (try clear hk); (try clear hi)) | ((with_reducible refine gate_dst (N := 7) rfl ?_); refine box_event ?hg (N := 7) ?hd (cs := #[.int .i64 0, .int .i64 0, .int .i64 0, .int .i64 0]) (t := 87) ?hr ?_; (case hd => rfl); (case hg => rfl); (case hr => first | (go_simp; done) | (go_simp; rfl)); intro gb188 hg w12 hbox hb; have n0_ := Aside0.mk (Kd.R_below (Kd.R_elderB (by (with_reducible repeat (first | apply Kd.R_alloc | apply Kd.R_drewN | apply Kd.R_drew)); exact HO_3.out) gb188 (Nat.le_of_eq hg.symm)) hb); have n1_ := Aside0.mk (below_step (by repeat (first | (with_reducible first | exact HB.out | apply below_alloc | apply pw_below_drewN | apply below_drew1) | exact HB.out)) hb); have n2_ := Aside0.mk (hbox); have n3_ := Aside0.mk ((by rw [hg]; exact (below_size (by repeat (first | (with_reducible first | exact HB.out | apply below_alloc | apply pw_below_drewN | apply below_drew1) | exact HB.out))) : w.heap.size ≤ gb188)); have n4_ := Aside0.mk ((by rw [hg]; exact (below_size (by repeat (first | (with_reducible first | exact HB.out | apply below_alloc | apply pw_below_drewN | apply below_drew1) | exact HB.out))) : w.heap.size ≤ gb188)); clear HO_3; clear HB; have HO_3 := n0_; have HB := n1_; have BK188 := n2_; have GW188 := n3_; have GE188 := n4_; clear n0_ n1_ n2_ n3_ n4_; clear hb hbox hg; have hcz13_0 : w12.cell? ⟨gb188, 0, none⟩ = some (.int .i64 0) := (blk_cell BK188.out 0).trans rfl; have hcz13_1 : w12.cell? ⟨gb188, 1, none⟩ = some (.int .i64 0) := (blk_cell BK188.out 1).trans rfl; have hcz13_2 : w12.cell? ⟨gb188, 2, none⟩ = some (.int .i64 0) := (blk_cell BK188.out 2).trans rfl; have hcz13_3 : w12.cell? ⟨gb188, 3, none⟩ = some (.int .i64 0) := (blk_cell BK188.out 3).trans rfl; have hfz13_0 := blk_frozen BK188.out 0; have hfz13_1 := blk_frozen BK188.out 1; have hfz13_2 := blk_frozen BK188.out 2; have hfz13_3 := blk_frozen BK188.out 3) | ((with_reducible refine gate_builtin (b := .append) (xs := #[.tmp 40, .tmp 42]) rfl ?_); at_builtin; refine Kd.R_append k87 (w0 := w) w.heap.size rfl (.tmp 40) (.tmp 42) 82 87 (.agg #[(.int .i64 0), (.int .i64 0), (.int .i64 0), (.int .i64 0)]) 32 rfl Try.underlying82 info87 rfl (by decide) (by omega) u3 x3_1 (⟨t184, t185, t186, t187⟩ : S87) [.int .i64 t184, .int .i64 t185, .int .i64 t186, .int .i64 t187] (fun k_ => k_ ≠ gb188) (fun _ => False) rfl (by first | (go_simp; done) | (go_simp; rfl)) ?aP (fun _ hk => hk.elim) ?aF ?aO ?aB ?aS ?aL ?_; (case aP => exact k87_mkM _ _ _ (⟨t184, t185, t186, t187⟩ : S87)); (case aB => exact (by repeat (first | (with_reducible first | exact HB.out | apply below_alloc | apply pw_below_drewN | apply below_drew1 | refine below_set ?_ GE188.out) | exact HB.out))); (case aF => exact (fun k_ hk => Kd.freshB (g := gb188) (o := .cells #[.int .i64 t184, .int .i64 t185, .int .i64 t186, .int .i64 t187] 87 (0, 0)) (by (with_reducible repeat (first | refine blk_drewN ?_ _ | refine blk_drew ?_ | refine blk_alloc ?_ _)); refine blk_put (cs := #[.int .i64 t184, .int .i64 t185, .int .i64 t186, .int .i64 0]) ?_ 3 _ rfl; (with_reducible repeat (first | refine blk_drewN ?_ _ | refine blk_drew ?_ | refine blk_alloc ?_ _)); refine blk_put (cs := #[.int .i64 t184, .int .i64 t185, .int .i64 0, .int .i64 0]) ?_ 2 _ rfl; (with_reducible repeat (first | refine blk_drewN ?_ _ | refine blk_drew ?_ | refine blk_alloc ?_ _)); refine blk_put (cs := #[.int .i64 t184, .int .i64 0, .int .i64 0, .int .i64 0]) ?_ 1 _ rfl; (with_reducible repeat (first | refine blk_drewN ?_ _ | refine blk_drew ?_ | refine blk_alloc ?_ _)); refine blk_put (cs := #[.int .i64 0, .int .i64 0, .int .i64 0, .int .i64 0]) ?_ 0 _ rfl; (with_reducible repeat (first | refine blk_drewN ?_ _ | refine blk_drew ?_ | refine blk_alloc ?_ _)); exact BK188.out) k_ hk)); (case aO => exact (by (with_reducible repeat (first | apply Kd.R_alloc | apply Kd.R_drewN | apply Kd.R_drew)); exact Kd.R_mono (Kd.R_far (p := ⟨gb188, 3, none⟩) (Kd.R_far (p := ⟨gb188, 2, none⟩) (Kd.R_far (p := ⟨gb188, 1, none⟩) (Kd.R_far (p := ⟨gb188, 0, none⟩) (Kd.R_mono HO_3.out (fun k_ hk => (⟨hk, hk.2⟩ : _ ∧ k_ ≠ gb188))) (fun _ hk => hk.2) (.int .i64 t184)) (fun _ hk => hk.2) (.int .i64 t185)) (fun _ hk => hk.2) (.int .i64 t186)) (fun _ hk => hk.2) (.int .i64 t187)) (fun _ hk => hk.1.2))); (case aS => exact (below_size (by repeat (first | (with_reducible first | exact HB.out | apply below_alloc | apply pw_below_drewN | apply below_drew1 | refine below_set ?_ GE188.out) | exact HB.out)))); (case aL => have := LMc10.out; omega); intro v190 w14 ho hb hg hat; rw [← Ny189.out] at ho; have n0_ := Aside0.mk (blk_grown (g := gb188) (o := .cells #[.int .i64 t184, .int .i64 t185, .int .i64 t186, .int .i64 t187] 87 (0, 0)) (by (with_reducible repeat (first | refine blk_drewN ?_ _ | refine blk_drew ?_ | refine blk_alloc ?_ _)); refine blk_put (cs := #[.int .i64 t184, .int .i64 t185, .int .i64 t186, .int .i64 0]) ?_ 3 _ rfl; (with_reducible repeat (first | refine blk_drewN ?_ _ | refine blk_drew ?_ | refine blk_alloc ?_ _)); refine blk_put (cs := #[.int .i64 t184, .int .i64 t185, .int .i64 0, .int .i64 0]) ?_ 2 _ rfl; (with_reducible repeat (first | refine blk_drewN ?_ _ | refine blk_drew ?_ | refine blk_alloc ?_ _)); refine blk_put (cs := #[.int .i64 t184, .int .i64 0, .int .i64 0, .int .i64 0]) ?_ 1 _ rfl; (with_reducible repeat (first | refine blk_drewN ?_ _ | refine blk_drew ?_ | refine blk_alloc ?_ _)); refine blk_put (cs := #[.int .i64 0, .int .i64 0, .int .i64 0, .int .i64 0]) ?_ 0 _ rfl; (with_reducible repeat (first | refine blk_drewN ?_ _ | refine blk_drew ?_ | refine blk_alloc ?_ _)); exact BK188.out) hg (Kd.R_away HO_3.out (fun _ hk => hk.2))); have n1_ := Aside0.mk (hb); have n2_ := Aside0.mk (ho); clear BK188; clear HB; clear HO_3; have BK188 := n0_; have HB := n1_; have HO191 := n2_; clear n0_ n1_ n2_; clear ho hb hg hat; have p192 : 0 ≤ (x5_1 : Int) := of_decide_eq_true (by first | (with_reducible assumption) | assumption); have q192 : x5_1 < (l0.length : Int) := of_decide_eq_true (by first | (with_reducible assumption) | assumption); obtain ⟨ad192, e192, hx192_0⟩ := Kd.at_int HR0.out x5_1 p192 q192; obtain rfl : ad181 = ad192 := (by injection e192); replace hx192_0 := (HB.out.cell (World.block_lt_of_cell? w _ hx192_0)).trans hx192_0; replace p192 := eq_true p192; replace q192 := eq_true q192; have hcz15_0 : w14.cell? ⟨gb188, 0, none⟩ = some (.int .i64 t184) := (blk_cell BK188.out 0).trans rfl; have hcz15_1 : w14.cell? ⟨gb188, 1, none⟩ = some (.int .i64 t185) := (blk_cell BK188.out 1).trans rfl; have hcz15_2 : w14.cell? ⟨gb188, 2, none⟩ = some (.int .i64 t186) := (blk_cell BK188.out 2).trans rfl; have hcz15_3 : w14.cell? ⟨gb188, 3, none⟩ = some (.int .i64 t187) := (blk_cell BK188.out 3).trans rfl; have hfz15_0 := blk_frozen BK188.out 0; have hfz15_1 := blk_frozen BK188.out 1; have hfz15_2 := blk_frozen BK188.out 2; have hfz15_3 := blk_frozen BK188.out 3)); try go_wp2_with (first | (go_at_call 58; (with_reducible refine (shrink_next.calls k2 (rd l0 x5_1) x4_1 x6_2 t184 t185 t186 t187 _ A9.out).mono ?_); rintro e w11 ⟨rfl, hb⟩; have n0_ := Aside0.mk (Kd.R_below (by (with_reducible repeat (first | apply Kd.R_alloc | apply Kd.R_drewN | apply Kd.R_drew)); exact HO_3.out) hb); have n1_ := Aside0.mk (below_step (by repeat (first | (with_reducible first | exact HB.out | apply below_alloc | apply pw_below_drewN | apply below_drew1) | exact HB.out)) hb); clear HO_3; clear HB; have HO_3 := n0_; have HB := n1_; clear n0_ n1_; (try clear hb); (try clear hb2); (try clear hk); (try clear hi)) | ((with_reducible refine gate_dst (N := 7) rfl ?_); refine box_event ?hg (N := 7) ?hd (cs := #[.int .i64 0, .int .i64 0, .int .i64 0, .int .i64 0]) (t := 87) ?hr ?_; (case hd => rfl); (case hg => rfl); (case hr => first | (go_simp; done) | (go_simp; rfl)); intro gb188 hg w12 hbox hb; have n0_ := Aside0.mk (Kd.R_below (Kd.R_elderB (by (with_reducible repeat (first | apply Kd.R_alloc | apply Kd.R_drewN | apply Kd.R_drew)); exact HO_3.out) gb188 (Nat.le_of_eq hg.symm)) hb); have n1_ := Aside0.mk (below_step (by repeat (first | (with_reducible first | exact HB.out | apply below_alloc | apply pw_below_drewN | apply below_drew1) | exact HB.out)) hb); have n2_ := Aside0.mk (hbox); have n3_ := Aside0.mk ((by rw [hg]; exact (below_size (by repeat (first | (with_reducible first | exact HB.out | apply below_alloc | apply pw_below_drewN | apply below_drew1) | exact HB.out))) : w.heap.size ≤ gb188)); have n4_ := Aside0.mk ((by rw [hg]; exact (below_size (by repeat (first | (with_reducible first | exact HB.out | apply below_alloc | apply pw_below_drewN | apply below_drew1) | exact HB.out))) : w.heap.size ≤ gb188)); clear HO_3; clear HB; have HO_3 := n0_; have HB := n1_; have BK188 := n2_; have GW188 := n3_; have GE188 := n4_; clear n0_ n1_ n2_ n3_ n4_; clear hb hbox hg; have hcz13_0 : w12.cell? ⟨gb188, 0, none⟩ = some (.int .i64 0) := (blk_cell BK188.out 0).trans rfl; have hcz13_1 : w12.cell? ⟨gb188, 1, none⟩ = some (.int .i64 0) := (blk_cell BK188.out 1).trans rfl; have hcz13_2 : w12.cell? ⟨gb188, 2, none⟩ = some (.int .i64 0) := (blk_cell BK188.out 2).trans rfl; have hcz13_3 : w12.cell? ⟨gb188, 3, none⟩ = some (.int .i64 0) := (blk_cell BK188.out 3).trans rfl; have hfz13_0 := blk_frozen BK188.out 0; have hfz13_1 := blk_frozen BK188.out 1; have hfz13_2 := blk_frozen BK188.out 2; have hfz13_3 := blk_frozen BK188.out 3) | ((with_reducible refine gate_builtin (b := .append) (xs := #[.tmp 40, .tmp 42]) rfl ?_); at_builtin; refine Kd.R_append k87 (w0 := w) w.heap.size rfl (.tmp 40) (.tmp 42) 82 87 (.agg #[(.int .i64 0), (.int .i64 0), (.int .i64 0), (.int .i64 0)]) 32 rfl Try.underlying82 info87 rfl (by decide) (by omega) u3 x3_1 (⟨t184, t185, t186, t187⟩ : S87) [.int .i64 t184, .int .i64 t185, .int .i64 t186, .int .i64 t187] (fun k_ => k_ ≠ gb188) (fun _ => False) rfl (by first | (go_simp; done) | (go_simp; rfl)) ?aP (fun _ hk => hk.elim) ?aF ?aO ?aB ?aS ?aL ?_; (case aP => exact k87_mkM _ _ _ (⟨t184, t185, t186, t187⟩ : S87)); (case aB => exact (by repeat (first | (with_reducible first | exact HB.out | apply below_alloc | apply pw_below_drewN | apply below_drew1 | refine below_set ?_ GE188.out) | exact HB.out))); (case aF => exact (fun k_ hk => Kd.freshB (g := gb188) (o := .cells #[.int .i64 t184, .int .i64 t185, .int .i64 t186, .int .i64 t187] 87 (0, 0)) (by (with_reducible repeat (first | refine blk_drewN ?_ _ | refine blk_drew ?_ | refine blk_alloc ?_ _)); refine blk_put (cs := #[.int .i64 t184, .int .i64 t185, .int .i64 t186, .int .i64 0]) ?_ 3 _ rfl; (with_reducible repeat (first | refine blk_drewN ?_ _ | refine blk_drew ?_ | refine blk_alloc ?_ _)); refine blk_put (cs := #[.int .i64 t184, .int .i64 t185, .int .i64 0, .int .i64 0]) ?_ 2 _ rfl; (with_reducible repeat (first | refine blk_drewN ?_ _ | refine blk_drew ?_ | refine blk_alloc ?_ _)); refine blk_put (cs := #[.int .i64 t184, .int .i64 0, .int .i64 0, .int .i64 0]) ?_ 1 _ rfl; (with_reducible repeat (first | refine blk_drewN ?_ _ | refine blk_drew ?_ | refine blk_alloc ?_ _)); refine blk_put (cs := #[.int .i64 0, .int .i64 0, .int .i64 0, .int .i64 0]) ?_ 0 _ rfl; (with_reducible repeat (first | refine blk_drewN ?_ _ | refine blk_drew ?_ | refine blk_alloc ?_ _)); exact BK188.out) k_ hk)); (case aO => exact (by (with_reducible repeat (first | apply Kd.R_alloc | apply Kd.R_drewN | apply Kd.R_drew)); exact Kd.R_mono (Kd.R_far (p := ⟨gb188, 3, none⟩) (Kd.R_far (p := ⟨gb188, 2, none⟩) (Kd.R_far (p := ⟨gb188, 1, none⟩) (Kd.R_far (p := ⟨gb188, 0, none⟩) (Kd.R_mono HO_3.out (fun k_ hk => (⟨hk, hk.2⟩ : _ ∧ k_ ≠ gb188))) (fun _ hk => hk.2) (.int .i64 t184)) (fun _ hk => hk.2) (.int .i64 t185)) (fun _ hk => hk.2) (.int .i64 t186)) (fun _ hk => hk.2) (.int .i64 t187)) (fun _ hk => hk.1.2))); (case aS => exact (below_size (by repeat (first | (with_reducible first | exact HB.out | apply below_alloc | apply pw_below_drewN | apply below_drew1 | refine below_set ?_ GE188.out) | exact HB.out)))); (case aL => have := LMc10.out; omega); intro v190 w14 ho hb hg hat; rw [← Ny189.out] at ho; have n0_ := Aside0.mk (blk_grown (g := gb188) (o := .cells #[.int .i64 t184, .int .i64 t185, .int .i64 t186, .int .i64 t187] 87 (0, 0)) (by (with_reducible repeat (first | refine blk_drewN ?_ _ | refine blk_drew ?_ | refine blk_alloc ?_ _)); refine blk_put (cs := #[.int .i64 t184, .int .i64 t185, .int .i64 t186, .int .i64 0]) ?_ 3 _ rfl; (with_reducible repeat (first | refine blk_drewN ?_ _ | refine blk_drew ?_ | refine blk_alloc ?_ _)); refine blk_put (cs := #[.int .i64 t184, .int .i64 t185, .int .i64 0, .int .i64 0]) ?_ 2 _ rfl; (with_reducible repeat (first | refine blk_drewN ?_ _ | refine blk_drew ?_ | refine blk_alloc ?_ _)); refine blk_put (cs := #[.int .i64 t184, .int .i64 0, .int .i64 0, .int .i64 0]) ?_ 1 _ rfl; (with_reducible repeat (first | refine blk_drewN ?_ _ | refine blk_drew ?_ | refine blk_alloc ?_ _)); refine blk_put (cs := #[.int .i64 0, .int .i64 0, .int .i64 0, .int .i64 0]) ?_ 0 _ rfl; (with_reducible repeat (first | refine blk_drewN ?_ _ | refine blk_drew ?_ | refine blk_alloc ?_ _)); exact BK188.out) hg (Kd.R_away HO_3.out (fun _ hk => hk.2))); have n1_ := Aside0.mk (hb); have n2_ := Aside0.mk (ho); clear BK188; clear HB; clear HO_3; have BK188 := n0_; have HB := n1_; have HO191 := n2_; clear n0_ n1_ n2_; clear ho hb hg hat; have p192 : 0 ≤ (x5_1 : Int) := of_decide_eq_true (by first | (with_reducible assumption) | assumption); have q192 : x5_1 < (l0.length : Int) := of_decide_eq_true (by first | (with_reducible assumption) | assumption); obtain ⟨ad192, e192, hx192_0⟩ := Kd.at_int HR0.out x5_1 p192 q192; obtain rfl : ad181 = ad192 := (by injection e192); replace hx192_0 := (HB.out.cell (World.block_lt_of_cell? w _ hx192_0)).trans hx192_0; replace p192 := eq_true p192; replace q192 := eq_true q192; have hcz15_0 : w14.cell? ⟨gb188, 0, none⟩ = some (.int .i64 t184) := (blk_cell BK188.out 0).trans rfl; have hcz15_1 : w14.cell? ⟨gb188, 1, none⟩ = some (.int .i64 t185) := (blk_cell BK188.out 1).trans rfl; have hcz15_2 : w14.cell? ⟨gb188, 2, none⟩ = some (.int .i64 t186) := (blk_cell BK188.out 2).trans rfl; have hcz15_3 : w14.cell? ⟨gb188, 3, none⟩ = some (.int .i64 t187) := (blk_cell BK188.out 3).trans rfl; have hfz15_0 := blk_frozen BK188.out 0; have hfz15_1 := blk_frozen BK188.out 1; have hfz15_2 := blk_frozen BK188.out 2; have hfz15_3 := blk_frozen BK188.out 3)))
                        go_roundg k2
                        case measure => have := HK1.out; have := HK2.out; omega
                        case rel => exact ⟨(y189), (rd l0 x5_1), (wrap64 (x5_1 + t187)), (by first | rfl | (simp; done) | (simp [*]; done)), (by first | rfl | (simp; done) | (simp [*]; done)), H', ⟨by have := HK1.out; have := HK2.out; omega⟩, ⟨by (with_reducible repeat (first | apply Kd.R_alloc | apply Kd.R_drewN | apply Kd.R_drew)); exact Kd.R_mono HO191.out (fun _ hk => trivial)⟩, ⟨by repeat (first | (with_reducible first | exact HB.out | apply below_alloc | apply pw_below_drewN | apply below_drew1 | refine below_set ?_ GE188.out) | exact HB.out)⟩⟩
                      · rw [if_neg c10] at H
                        exact absurd H (by simp)
                  · rw [if_neg c7] at H
                    exact absurd H (by simp)
                · rw [if_neg c6] at H
                  exact absurd H (by simp)
              · rw [if_neg c5] at H
                exact absurd H (by simp)
            · rw [if_neg c3] at H
              have c3b0 : decide ((wrap64 (x5_1 + x6_2)) < (l0.length : Int)) = false := decide_eq_false c3
              clear c3
              by_cases c16 : 0 ≤ x5_1
              · rw [if_pos c16] at H
                have c16b0 : decide (0 ≤ x5_1) = true := decide_eq_true c16
                clear c16
                by_cases c17 : x5_1 < (l0.length : Int)
                · rw [if_pos c17] at H
                  have c17b0 : decide (x5_1 < (l0.length : Int)) = true := decide_eq_true c17
                  clear c17
                  replace H := Option.bind_eq_some_iff.mp H
                  obtain ⟨⟨t194, t195, t196, t197⟩, A180, H⟩ := H
                  replace H : (if x3_1.length < 4398046511104 then (shrink_steps.l0 k2 l0 (x3_1 ++ [(⟨t194, t195, t196, t197⟩ : S87)]) (rd l0 x5_1) (wrap64 (x5_1 + t197))) else (none)) = some r := H
                  have A18 := Aside0.mk A180
                  clear A180
                  by_cases c19 : x3_1.length < 4398046511104
                  · rw [if_pos c19] at H
                    have LMc19 := Aside0.mk c19
                    clear c19
                    obtain ⟨y199, hy199⟩ : ∃ y_ : List (S87), y_ = (x3_1 ++ [(⟨t194, t195, t196, t197⟩ : S87)]) := ⟨_, rfl⟩
                    replace H : (shrink_steps.l0 k2 l0 y199 (rd l0 x5_1) (wrap64 (x5_1 + t197))) = some r := by first | (rw [hy199]; with_reducible exact H) | (have H2_ := (Option.bind_some _ _).symm.trans H; rw [hy199]; with_reducible exact H2_) | (have H2_ := (Option.bind_some _ _).symm.trans H; with_reducible exact H2_) | with_reducible exact H | (rw [hy199]; exact H) | exact H
                    have Ny199 := Aside0.mk hy199
                    clear hy199
                    have H' := Aside0.mk H
                    clear H
                    have p193 : 0 ≤ (x5_1 : Int) := of_decide_eq_true (by first | (with_reducible assumption) | assumption)
                    have q193 : x5_1 < (l0.length : Int) := of_decide_eq_true (by first | (with_reducible assumption) | assumption)
                    obtain ⟨ad193, e193, hx193_0⟩ := Kd.at_int HR0.out x5_1 p193 q193
                    cases e193
                    replace hx193_0 := (HB.out.cell (World.block_lt_of_cell? w _ hx193_0)).trans hx193_0
                    replace p193 := eq_true p193
                    replace q193 := eq_true q193
                    go_wp2_with (first | (go_at_call 58; (with_reducible refine (shrink_next.calls k2 (rd l0 x5_1) x4_1 x6_2 t194 t195 t196 t197 _ A18.out).mono ?_); rintro e w20 ⟨rfl, hb⟩; have n0_ := Aside0.mk (Kd.R_below (by (with_reducible repeat (first | apply Kd.R_alloc | apply Kd.R_drewN | apply Kd.R_drew)); exact HO_3.out) hb); have n1_ := Aside0.mk (below_step (by repeat (first | (with_reducible first | exact HB.out | apply below_alloc | apply pw_below_drewN | apply below_drew1) | exact HB.out)) hb); clear HO_3; clear HB; have HO_3 := n0_; have HB := n1_; clear n0_ n1_; (try clear hb); (try clear hb2); (try clear hk); (try clear hi)) | ((with_reducible refine gate_dst (N := 7) rfl ?_); refine box_event ?hg (N := 7) ?hd (cs := #[.int .i64 0, .int .i64 0, .int .i64 0, .int .i64 0]) (t := 87) ?hr ?_; (case hd => rfl); (case hg => rfl); (case hr => first | (go_simp; done) | (go_simp; rfl)); intro gb198 hg w21 hbox hb; have n0_ := Aside0.mk (Kd.R_below (Kd.R_elderB (by (with_reducible repeat (first | apply Kd.R_alloc | apply Kd.R_drewN | apply Kd.R_drew)); exact HO_3.out) gb198 (Nat.le_of_eq hg.symm)) hb); have n1_ := Aside0.mk (below_step (by repeat (first | (with_reducible first | exact HB.out | apply below_alloc | apply pw_below_drewN | apply below_drew1) | exact HB.out)) hb); have n2_ := Aside0.mk (hbox); have n3_ := Aside0.mk ((by rw [hg]; exact (below_size (by repeat (first | (with_reducible first | exact HB.out | apply below_alloc | apply pw_below_drewN | apply below_drew1) | exact HB.out))) : w.heap.size ≤ gb198)); have n4_ := Aside0.mk ((by rw [hg]; exact (below_size (by repeat (first | (with_reducible first | exact HB.out | apply below_alloc | apply pw_below_drewN | apply below_drew1) | exact HB.out))) : w.heap.size ≤ gb198)); clear HO_3; clear HB; have HO_3 := n0_; have HB := n1_; have BK198 := n2_; have GW198 := n3_; have GE198 := n4_; clear n0_ n1_ n2_ n3_ n4_; clear hb hbox hg; have hcz22_0 : w21.cell? ⟨gb198, 0, none⟩ = some (.int .i64 0) := (blk_cell BK198.out 0).trans rfl; have hcz22_1 : w21.cell? ⟨gb198, 1, none⟩ = some (.int .i64 0) := (blk_cell BK198.out 1).trans rfl; have hcz22_2 : w21.cell? ⟨gb198, 2, none⟩ = some (.int .i64 0) := (blk_cell BK198.out 2).trans rfl; have hcz22_3 : w21.cell? ⟨gb198, 3, none⟩ = some (.int .i64 0) := (blk_cell BK198.out 3).trans rfl; have hfz22_0 := blk_frozen BK198.out 0; have hfz22_1 := blk_frozen BK198.out 1; have hfz22_2 := blk_frozen BK198.out 2; have hfz22_3 := blk_frozen BK198.out 3) | ((with_reducible refine gate_builtin (b := .append) (xs := #[.tmp 40, .tmp 42]) rfl ?_); at_builtin; refine Kd.R_append k87 (w0 := w) w.heap.size rfl (.tmp 40) (.tmp 42) 82 87 (.agg #[(.int .i64 0), (.int .i64 0), (.int .i64 0), (.int .i64 0)]) 32 rfl Try.underlying82 info87 rfl (by decide) (by omega) u3 x3_1 (⟨t194, t195, t196, t197⟩ : S87) [.int .i64 t194, .int .i64 t195, .int .i64 t196, .int .i64 t197] (fun k_ => k_ ≠ gb198) (fun _ => False) rfl (by first | (go_simp; done) | (go_simp; rfl)) ?aP (fun _ hk => hk.elim) ?aF ?aO ?aB ?aS ?aL ?_; (case aP => exact k87_mkM _ _ _ (⟨t194, t195, t196, t197⟩ : S87)); (case aB => exact (by repeat (first | (with_reducible first | exact HB.out | apply below_alloc | apply pw_below_drewN | apply below_drew1 | refine below_set ?_ GE198.out) | exact HB.out))); (case aF => exact (fun k_ hk => Kd.freshB (g := gb198) (o := .cells #[.int .i64 t194, .int .i64 t195, .int .i64 t196, .int .i64 t197] 87 (0, 0)) (by (with_reducible repeat (first | refine blk_drewN ?_ _ | refine blk_drew ?_ | refine blk_alloc ?_ _)); refine blk_put (cs := #[.int .i64 t194, .int .i64 t195, .int .i64 t196, .int .i64 0]) ?_ 3 _ rfl; (with_reducible repeat (first | refine blk_drewN ?_ _ | refine blk_drew ?_ | refine blk_alloc ?_ _)); refine blk_put (cs := #[.int .i64 t194, .int .i64 t195, .int .i64 0, .int .i64 0]) ?_ 2 _ rfl; (with_reducible repeat (first | refine blk_drewN ?_ _ | refine blk_drew ?_ | refine blk_alloc ?_ _)); refine blk_put (cs := #[.int .i64 t194, .int .i64 0, .int .i64 0, .int .i64 0]) ?_ 1 _ rfl; (with_reducible repeat (first | refine blk_drewN ?_ _ | refine blk_drew ?_ | refine blk_alloc ?_ _)); refine blk_put (cs := #[.int .i64 0, .int .i64 0, .int .i64 0, .int .i64 0]) ?_ 0 _ rfl; (with_reducible repeat (first | refine blk_drewN ?_ _ | refine blk_drew ?_ | refine blk_alloc ?_ _)); exact BK198.out) k_ hk)); (case aO => exact (by (with_reducible repeat (first | apply Kd.R_alloc | apply Kd.R_drewN | apply Kd.R_drew)); exact Kd.R_mono (Kd.R_far (p := ⟨gb198, 3, none⟩) (Kd.R_far (p := ⟨gb198, 2, none⟩) (Kd.R_far (p := ⟨gb198, 1, none⟩) (Kd.R_far (p := ⟨gb198, 0, none⟩) (Kd.R_mono HO_3.out (fun k_ hk => (⟨hk, hk.2⟩ : _ ∧ k_ ≠ gb198))) (fun _ hk => hk.2) (.int .i64 t194)) (fun _ hk => hk.2) (.int .i64 t195)) (fun _ hk => hk.2) (.int .i64 t196)) (fun _ hk => hk.2) (.int .i64 t197)) (fun _ hk => hk.1.2))); (case aS => exact (below_size (by repeat (first | (with_reducible first | exact HB.out | apply below_alloc | apply pw_below_drewN | apply below_drew1 | refine below_set ?_ GE198.out) | exact HB.out)))); (case aL => have := LMc19.out; omega); intro v200 w23 ho hb hg hat; rw [← Ny199.out] at ho; have n0_ := Aside0.mk (blk_grown (g := gb198) (o := .cells #[.int .i64 t194, .int .i64 t195, .int .i64 t196, .int .i64 t197] 87 (0, 0)) (by (with_reducible repeat (first | refine blk_drewN ?_ _ | refine blk_drew ?_ | refine blk_alloc ?_ _)); refine blk_put (cs := #[.int .i64 t194, .int .i64 t195, .int .i64 t196, .int .i64 0]) ?_ 3 _ rfl; (with_reducible repeat (first | refine blk_drewN ?_ _ | refine blk_drew ?_ | refine blk_alloc ?_ _)); refine blk_put (cs := #[.int .i64 t194, .int .i64 t195, .int .i64 0, .int .i64 0]) ?_ 2 _ rfl; (with_reducible repeat (first | refine blk_drewN ?_ _ | refine blk_drew ?_ | refine blk_alloc ?_ _)); refine blk_put (cs := #[.int .i64 t194, .int .i64 0, .int .i64 0, .int .i64 0]) ?_ 1 _ rfl; (with_reducible repeat (first | refine blk_drewN ?_ _ | refine blk_drew ?_ | refine blk_alloc ?_ _)); refine blk_put (cs := #[.int .i64 0, .int .i64 0, .int .i64 0, .int .i64 0]) ?_ 0 _ rfl; (with_reducible repeat (first | refine blk_drewN ?_ _ | refine blk_drew ?_ | refine blk_alloc ?_ _)); exact BK198.out) hg (Kd.R_away HO_3.out (fun _ hk => hk.2))); have n1_ := Aside0.mk (hb); have n2_ := Aside0.mk (ho); clear BK198; clear HB; clear HO_3; have BK198 := n0_; have HB := n1_; have HO201 := n2_; clear n0_ n1_ n2_; clear ho hb hg hat; have p202 : 0 ≤ (x5_1 : Int) := of_decide_eq_true (by first | (with_reducible assumption) | assumption); have q202 : x5_1 < (l0.length : Int) := of_decide_eq_true (by first | (with_reducible assumption) | assumption); obtain ⟨ad202, e202, hx202_0⟩ := Kd.at_int HR0.out x5_1 p202 q202; obtain rfl : ad193 = ad202 := (by injection e202); replace hx202_0 := (HB.out.cell (World.block_lt_of_cell? w _ hx202_0)).trans hx202_0; replace p202 := eq_true p202; replace q202 := eq_true q202; have hcz24_0 : w23.cell? ⟨gb198, 0, none⟩ = some (.int .i64 t194) := (blk_cell BK198.out 0).trans rfl; have hcz24_1 : w23.cell? ⟨gb198, 1, none⟩ = some (.int .i64 t195) := (blk_cell BK198.out 1).trans rfl; have hcz24_2 : w23.cell? ⟨gb198, 2, none⟩ = some (.int .i64 t196) := (blk_cell BK198.out 2).trans rfl; have hcz24_3 : w23.cell? ⟨gb198, 3, none⟩ = some (.int .i64 t197) := (blk_cell BK198.out 3).trans rfl; have hfz24_0 := blk_frozen BK198.out 0; have hfz24_1 := blk_frozen BK198.out 1; have hfz24_2 := blk_frozen BK198.out 2; have hfz24_3 := blk_frozen BK198.out 3))
                    repeat (go_quiet (first | (go_at_call 58; (with_reducible refine (shrink_next.calls k2 (rd l0 x5_1) x4_1 x6_2 t194 t195 t196 t197 _ A18.out).mono ?_); rintro e w20 ⟨rfl, hb⟩; have n0_ := Aside0.mk (Kd.R_below (by (with_reducible repeat (first | apply Kd.R_alloc | apply Kd.R_drewN | apply Kd.R_drew)); exact HO_3.out) hb); have n1_ := Aside0.mk (below_step (by repeat (first | (with_reducible first | exact HB.out | apply below_alloc | apply pw_below_drewN | apply below_drew1) | exact HB.out)) hb); clear HO_3; clear HB; have HO_3 := n0_; have HB := n1_; clear n0_ n1_; (try clear hb); (try clear hb2); (try clear hk); (try clear hi)) | ((with_reducible refine gate_dst (N := 7) rfl ?_); refine box_event ?hg (N := 7) ?hd (cs := #[.int .i64 0, .int .i64 0, .int .i64 0, .int .i64 0]) (t := 87) ?hr ?_; (case hd => rfl); (case hg => rfl); (case hr => first | (go_simp; done) | (go_simp; rfl)); intro gb198 hg w21 hbox hb; have n0_ := Aside0.mk (Kd.R_below (Kd.R_elderB (by (with_reducible repeat (first | apply Kd.R_alloc | apply Kd.R_drewN | apply Kd.R_drew)); exact HO_3.out) gb198 (Nat.le_of_eq hg.symm)) hb); have n1_ := Aside0.mk (below_step (by repeat (first | (with_reducible first | exact HB.out | apply below_alloc | apply pw_below_drewN | apply below_drew1) | exact HB.out)) hb); have n2_ := Aside0.mk (hbox); have n3_ := Aside0.mk ((by rw [hg]; exact (below_size (by repeat (first | (with_reducible first | exact HB.out | apply below_alloc | apply pw_below_drewN | apply below_drew1) | exact HB.out))) : w.heap.size ≤ gb198)); have n4_ := Aside0.mk ((by rw [hg]; exact (below_size (by repeat (first | (with_reducible first | exact HB.out | apply below_alloc | apply pw_below_drewN | apply below_drew1) | exact HB.out))) : w.heap.size ≤ gb198)); clear HO_3; clear HB; have HO_3 := n0_; have HB := n1_; have BK198 := n2_; have GW198 := n3_; have GE198 := n4_; clear n0_ n1_ n2_ n3_ n4_; clear hb hbox hg; have hcz22_0 : w21.cell? ⟨gb198, 0, none⟩ = some (.int .i64 0) := (blk_cell BK198.out 0).trans rfl; have hcz22_1 : w21.cell? ⟨gb198, 1, none⟩ = some (.int .i64 0) := (blk_cell BK198.out 1).trans rfl; have hcz22_2 : w21.cell? ⟨gb198, 2, none⟩ = some (.int .i64 0) := (blk_cell BK198.out 2).trans rfl; have hcz22_3 : w21.cell? ⟨gb198, 3, none⟩ = some (.int .i64 0) := (blk_cell BK198.out 3).trans rfl; have hfz22_0 := blk_frozen BK198.out 0; have hfz22_1 := blk_frozen BK198.out 1; have hfz22_2 := blk_frozen BK198.out 2; have hfz22_3 := blk_frozen BK198.out 3) | ((with_reducible refine gate_builtin (b := .append) (xs := #[.tmp 40, .tmp 42]) rfl ?_); at_builtin; refine Kd.R_append k87 (w0 := w) w.heap.size rfl (.tmp 40) (.tmp 42) 82 87 (.agg #[(.int .i64 0), (.int .i64 0), (.int .i64 0), (.int .i64 0)]) 32 rfl Try.underlying82 info87 rfl (by decide) (by omega) u3 x3_1 (⟨t194, t195, t196, t197⟩ : S87) [.int .i64 t194, .int .i64 t195, .int .i64 t196, .int .i64 t197] (fun k_ => k_ ≠ gb198) (fun _ => False) rfl (by first | (go_simp; done) | (go_simp; rfl)) ?aP (fun _ hk => hk.elim) ?aF ?aO ?aB ?aS ?aL ?_; (case aP => exact k87_mkM _ _ _ (⟨t194, t195, t196, t197⟩ : S87)); (case aB => exact (by repeat (first | (with_reducible first | exact HB.out | apply below_alloc | apply pw_below_drewN | apply below_drew1 | refine below_set ?_ GE198.out) | exact HB.out))); (case aF => exact (fun k_ hk => Kd.freshB (g := gb198) (o := .cells #[.int .i64 t194, .int .i64 t195, .int .i64 t196, .int .i64 t197] 87 (0, 0)) (by (with_reducible repeat (first | refine blk_drewN ?_ _ | refine blk_drew ?_ | refine blk_alloc ?_ _)); refine blk_put (cs := #[.int .i64 t194, .int .i64 t195, .int .i64 t196, .int .i64 0]) ?_ 3 _ rfl; (with_reducible repeat (first | refine blk_drewN ?_ _ | refine blk_drew ?_ | refine blk_alloc ?_ _)); refine blk_put (cs := #[.int .i64 t194, .int .i64 t195, .int .i64 0, .int .i64 0]) ?_ 2 _ rfl; (with_reducible repeat (first | refine blk_drewN ?_ _ | refine blk_drew ?_ | refine blk_alloc ?_ _)); refine blk_put (cs := #[.int .i64 t194, .int .i64 0, .int .i64 0, .int .i64 0]) ?_ 1 _ rfl; (with_reducible repeat (first | refine blk_drewN ?_ _ | refine blk_drew ?_ | refine blk_alloc ?_ _)); refine blk_put (cs := #[.int .i64 0, .int .i64 0, .int .i64 0, .int .i64 0]) ?_ 0 _ rfl; (with_reducible repeat (first | refine blk_drewN ?_ _ | refine blk_drew ?_ | refine blk_alloc ?_ _)); exact BK198.out) k_ hk)); (case aO => exact (by (with_reducible repeat (first | apply Kd.R_alloc | apply Kd.R_drewN | apply Kd.R_drew)); exact Kd.R_mono (Kd.R_far (p := ⟨gb198, 3, none⟩) (Kd.R_far (p := ⟨gb198, 2, none⟩) (Kd.R_far (p := ⟨gb198, 1, none⟩) (Kd.R_far (p := ⟨gb198, 0, none⟩) (Kd.R_mono HO_3.out (fun k_ hk => (⟨hk, hk.2⟩ : _ ∧ k_ ≠ gb198))) (fun _ hk => hk.2) (.int .i64 t194)) (fun _ hk => hk.2) (.int .i64 t195)) (fun _ hk => hk.2) (.int .i64 t196)) (fun _ hk => hk.2) (.int .i64 t197)) (fun _ hk => hk.1.2))); (case aS => exact (below_size (by repeat (first | (with_reducible first | exact HB.out | apply below_alloc | apply pw_below_drewN | apply below_drew1 | refine below_set ?_ GE198.out) | exact HB.out)))); (case aL => have := LMc19.out; omega); intro v200 w23 ho hb hg hat; rw [← Ny199.out] at ho; have n0_ := Aside0.mk (blk_grown (g := gb198) (o := .cells #[.int .i64 t194, .int .i64 t195, .int .i64 t196, .int .i64 t197] 87 (0, 0)) (by (with_reducible repeat (first | refine blk_drewN ?_ _ | refine blk_drew ?_ | refine blk_alloc ?_ _)); refine blk_put (cs := #[.int .i64 t194, .int .i64 t195, .int .i64 t196, .int .i64 0]) ?_ 3 _ rfl; (with_reducible repeat (first | refine blk_drewN ?_ _ | refine blk_drew ?_ | refine blk_alloc ?_ _)); refine blk_put (cs := #[.int .i64 t194, .int .i64 t195, .int .i64 0, .int .i64 0]) ?_ 2 _ rfl; (with_reducible repeat (first | refine blk_drewN ?_ _ | refine blk_drew ?_ | refine blk_alloc ?_ _)); refine blk_put (cs := #[.int .i64 t194, .int .i64 0, .int .i64 0, .int .i64 0]) ?_ 1 _ rfl; (with_reducible repeat (first | refine blk_drewN ?_ _ | refine blk_drew ?_ | refine blk_alloc ?_ _)); refine blk_put (cs := #[.int .i64 0, .int .i64 0, .int .i64 0, .int .i64 0]) ?_ 0 _ rfl; (with_reducible repeat (first | refine blk_drewN ?_ _ | refine blk_drew ?_ | refine blk_alloc ?_ _)); exact BK198.out) hg (Kd.R_away HO_3.out (fun _ hk => hk.2))); have n1_ := Aside0.mk (hb); have n2_ := Aside0.mk (ho); clear BK198; clear HB; clear HO_3; have BK198 := n0_; have HB := n1_; have HO201 := n2_; clear n0_ n1_ n2_; clear ho hb hg hat; have p202 : 0 ≤ (x5_1 : Int) := of_decide_eq_true (by first | (with_reducible assumption) | assumption); have q202 : x5_1 < (l0.length : Int) := of_decide_eq_true (by first | (with_reducible assumption) | assumption); obtain ⟨ad202, e202, hx202_0⟩ := Kd.at_int HR0.out x5_1 p202 q202; obtain rfl : ad193 = ad202 := (by injection e202); replace hx202_0 := (HB.out.cell (World.block_lt_of_cell? w _ hx202_0)).trans hx202_0; replace p202 := eq_true p202; replace q202 := eq_true q202; have hcz24_0 : w23.cell? ⟨gb198, 0, none⟩ = some (.int .i64 t194) := (blk_cell BK198.out 0).trans rfl; have hcz24_1 : w23.cell? ⟨gb198, 1, none⟩ = some (.int .i64 t195) := (blk_cell BK198.out 1).trans rfl; have hcz24_2 : w23.cell? ⟨gb198, 2, none⟩ = some (.int .i64 t196) := (blk_cell BK198.out 2).trans rfl; have hcz24_3 : w23.cell? ⟨gb198, 3, none⟩ = some (.int .i64 t197) := (blk_cell BK198.out 3).trans rfl; have hfz24_0 := blk_frozen BK198.out 0; have hfz24_1 := blk_frozen BK198.out 1; have hfz24_2 := blk_frozen BK198.out 2; have hfz24_3 := blk_frozen BK198.out 3)); try go_wp2_with (first | (go_at_call 58; (with_reducible refine (shrink_next.calls k2 (rd l0 x5_1) x4_1 x6_2 t194 t195 t196 t197 _ A18.out).mono ?_); rintro e w20 ⟨rfl, hb⟩; have n0_ := Aside0.mk (Kd.R_below (by (with_reducible repeat (first | apply Kd.R_alloc | apply Kd.R_drewN | apply Kd.R_drew)); exact HO_3.out) hb); have n1_ := Aside0.mk (below_step (by repeat (first | (with_reducible first | exact HB.out | apply below_alloc | apply pw_below_drewN | apply below_drew1) | exact HB.out)) hb); clear HO_3; clear HB; have HO_3 := n0_; have HB := n1_; clear n0_ n1_; (try clear hb); (try clear hb2); (try clear hk); (try clear hi)) | ((with_reducible refine gate_dst (N := 7) rfl ?_); refine box_event ?hg (N := 7) ?hd (cs := #[.int .i64 0, .int .i64 0, .int .i64 0, .int .i64 0]) (t := 87) ?hr ?_; (case hd => rfl); (case hg => rfl); (case hr => first | (go_simp; done) | (go_simp; rfl)); intro gb198 hg w21 hbox hb; have n0_ := Aside0.mk (Kd.R_below (Kd.R_elderB (by (with_reducible repeat (first | apply Kd.R_alloc | apply Kd.R_drewN | apply Kd.R_drew)); exact HO_3.out) gb198 (Nat.le_of_eq hg.symm)) hb); have n1_ := Aside0.mk (below_step (by repeat (first | (with_reducible first | exact HB.out | apply below_alloc | apply pw_below_drewN | apply below_drew1) | exact HB.out)) hb); have n2_ := Aside0.mk (hbox); have n3_ := Aside0.mk ((by rw [hg]; exact (below_size (by repeat (first | (with_reducible first | exact HB.out | apply below_alloc | apply pw_below_drewN | apply below_drew1) | exact HB.out))) : w.heap.size ≤ gb198)); have n4_ := Aside0.mk ((by rw [hg]; exact (below_size (by repeat (first | (with_reducible first | exact HB.out | apply below_alloc | apply pw_below_drewN | apply below_drew1) | exact HB.out))) : w.heap.size ≤ gb198)); clear HO_3; clear HB; have HO_3 := n0_; have HB := n1_; have BK198 := n2_; have GW198 := n3_; have GE198 := n4_; clear n0_ n1_ n2_ n3_ n4_; clear hb hbox hg; have hcz22_0 : w21.cell? ⟨gb198, 0, none⟩ = some (.int .i64 0) := (blk_cell BK198.out 0).trans rfl; have hcz22_1 : w21.cell? ⟨gb198, 1, none⟩ = some (.int .i64 0) := (blk_cell BK198.out 1).trans rfl; have hcz22_2 : w21.cell? ⟨gb198, 2, none⟩ = some (.int .i64 0) := (blk_cell BK198.out 2).trans rfl; have hcz22_3 : w21.cell? ⟨gb198, 3, none⟩ = some (.int .i64 0) := (blk_cell BK198.out 3).trans rfl; have hfz22_0 := blk_frozen BK198.out 0; have hfz22_1 := blk_frozen BK198.out 1; have hfz22_2 := blk_frozen BK198.out 2; have hfz22_3 := blk_frozen BK198.out 3) | ((with_reducible refine gate_builtin (b := .append) (xs := #[.tmp 40, .tmp 42]) rfl ?_); at_builtin; refine Kd.R_append k87 (w0 := w) w.heap.size rfl (.tmp 40) (.tmp 42) 82 87 (.agg #[(.int .i64 0), (.int .i64 0), (.int .i64 0), (.int .i64 0)]) 32 rfl Try.underlying82 info87 rfl (by decide) (by omega) u3 x3_1 (⟨t194, t195, t196, t197⟩ : S87) [.int .i64 t194, .int .i64 t195, .int .i64 t196, .int .i64 t197] (fun k_ => k_ ≠ gb198) (fun _ => False) rfl (by first | (go_simp; done) | (go_simp; rfl)) ?aP (fun _ hk => hk.elim) ?aF ?aO ?aB ?aS ?aL ?_; (case aP => exact k87_mkM _ _ _ (⟨t194, t195, t196, t197⟩ : S87)); (case aB => exact (by repeat (first | (with_reducible first | exact HB.out | apply below_alloc | apply pw_below_drewN | apply below_drew1 | refine below_set ?_ GE198.out) | exact HB.out))); (case aF => exact (fun k_ hk => Kd.freshB (g := gb198) (o := .cells #[.int .i64 t194, .int .i64 t195, .int .i64 t196, .int .i64 t197] 87 (0, 0)) (by (with_reducible repeat (first | refine blk_drewN ?_ _ | refine blk_drew ?_ | refine blk_alloc ?_ _)); refine blk_put (cs := #[.int .i64 t194, .int .i64 t195, .int .i64 t196, .int .i64 0]) ?_ 3 _ rfl; (with_reducible repeat (first | refine blk_drewN ?_ _ | refine blk_drew ?_ | refine blk_alloc ?_ _)); refine blk_put (cs := #[.int .i64 t194, .int .i64 t195, .int .i64 0, .int .i64 0]) ?_ 2 _ rfl; (with_reducible repeat (first | refine blk_drewN ?_ _ | refine blk_drew ?_ | refine blk_alloc ?_ _)); refine blk_put (cs := #[.int .i64 t194, .int .i64 0, .int .i64 0, .int .i64 0]) ?_ 1 _ rfl; (with_reducible repeat (first | refine blk_drewN ?_ _ | refine blk_drew ?_ | refine blk_alloc ?_ _)); refine blk_put (cs := #[.int .i64 0, .int .i64 0, .int .i64 0, .int .i64 0]) ?_ 0 _ rfl; (with_reducible repeat (first | refine blk_drewN ?_ _ | refine blk_drew ?_ | refine blk_alloc ?_ _)); exact BK198.out) k_ hk)); (case aO => exact (by (with_reducible repeat (first | apply Kd.R_alloc | apply Kd.R_drewN | apply Kd.R_drew)); exact Kd.R_mono (Kd.R_far (p := ⟨gb198, 3, none⟩) (Kd.R_far (p := ⟨gb198, 2, none⟩) (Kd.R_far (p := ⟨gb198, 1, none⟩) (Kd.R_far (p := ⟨gb198, 0, none⟩) (Kd.R_mono HO_3.out (fun k_ hk => (⟨hk, hk.2⟩ : _ ∧ k_ ≠ gb198))) (fun _ hk => hk.2) (.int .i64 t194)) (fun _ hk => hk.2) (.int .i64 t195)) (fun _ hk => hk.2) (.int .i64 t196)) (fun _ hk => hk.2) (.int .i64 t197)) (fun _ hk => hk.1.2))); (case aS => exact (below_size (by repeat (first | (with_reducible first | exact HB.out | apply below_alloc | apply pw_below_drewN | apply below_drew1 | refine below_set ?_ GE198.out) | exact HB.out)))); (case aL => have := LMc19.out; omega); intro v200 w23 ho hb hg hat; rw [← Ny199.out] at ho; have n0_ := Aside0.mk (blk_grown (g := gb198) (o := .cells #[.int .i64 t194, .int .i64 t195, .int .i64 t196, .int .i64 t197] 87 (0, 0)) (by (with_reducible repeat (first | refine blk_drewN ?_ _ | refine blk_drew ?_ | refine blk_alloc ?_ _)); refine blk_put (cs := #[.int .i64 t194, .int .i64 t195, .int .i64 t196, .int .i64 0]) ?_ 3 _ rfl; (with_reducible repeat (first | refine blk_drewN ?_ _ | refine blk_drew ?_ | refine blk_alloc ?_ _)); refine blk_put (cs := #[.int .i64 t194, .int .i64 t195, .int .i64 0, .int .i64 0]) ?_ 2 _ rfl; (with_reducible repeat (first | refine blk_drewN ?_ _ | refine blk_drew ?_ | refine blk_alloc ?_ _)); refine blk_put (cs := #[.int .i64 t194, .int .i64 0, .int .i64 0, .int .i64 0]) ?_ 1 _ rfl; (with_reducible repeat (first | refine blk_drewN ?_ _ | refine blk_drew ?_ | refine blk_alloc ?_ _)); refine blk_put (cs := #[.int .i64 0, .int .i64 0, .int .i64 0, .int .i64 0]) ?_ 0 _ rfl; (with_reducible repeat (first | refine blk_drewN ?_ _ | refine blk_drew ?_ | refine blk_alloc ?_ _)); exact BK198.out) hg (Kd.R_away HO_3.out (fun _ hk => hk.2))); have n1_ := Aside0.mk (hb); have n2_ := Aside0.mk (ho); clear BK198; clear HB; clear HO_3; have BK198 := n0_; have HB := n1_; have HO201 := n2_; clear n0_ n1_ n2_; clear ho hb hg hat; have p202 : 0 ≤ (x5_1 : Int) := of_decide_eq_true (by first | (with_reducible assumption) | assumption); have q202 : x5_1 < (l0.length : Int) := of_decide_eq_true (by first | (with_reducible assumption) | assumption); obtain ⟨ad202, e202, hx202_0⟩ := Kd.at_int HR0.out x5_1 p202 q202; obtain rfl : ad193 = ad202 := (by injection e202); replace hx202_0 := (HB.out.cell (World.block_lt_of_cell? w _ hx202_0)).trans hx202_0; replace p202 := eq_true p202; replace q202 := eq_true q202; have hcz24_0 : w23.cell? ⟨gb198, 0, none⟩ = some (.int .i64 t194) := (blk_cell BK198.out 0).trans rfl; have hcz24_1 : w23.cell? ⟨gb198, 1, none⟩ = some (.int .i64 t195) := (blk_cell BK198.out 1).trans rfl; have hcz24_2 : w23.cell? ⟨gb198, 2, none⟩ = some (.int .i64 t196) := (blk_cell BK198.out 2).trans rfl; have hcz24_3 : w23.cell? ⟨gb198, 3, none⟩ = some (.int .i64 t197) := (blk_cell BK198.out 3).trans rfl; have hfz24_0 := blk_frozen BK198.out 0; have hfz24_1 := blk_frozen BK198.out 1; have hfz24_2 := blk_frozen BK198.out 2; have hfz24_3 := blk_frozen BK198.out 3)))
                    go_roundg k2
                    case measure => have := HK1.out; have := HK2.out; omega
                    case rel => exact ⟨(y199), (rd l0 x5_1), (wrap64 (x5_1 + t197)), (by first | rfl | (simp; done) | (simp [*]; done)), (by first | rfl | (simp; done) | (simp [*]; done)), H', ⟨by have := HK1.out; have := HK2.out; omega⟩, ⟨by (with_reducible repeat (first | apply Kd.R_alloc | apply Kd.R_drewN | apply Kd.R_drew)); exact Kd.R_mono HO201.out (fun _ hk => trivial)⟩, ⟨by repeat (first | (with_reducible first | exact HB.out | apply below_alloc | apply pw_below_drewN | apply below_drew1 | refine below_set ?_ GE198.out) | exact HB.out)⟩⟩
                  · rw [if_neg c19] at H
                    exact absurd H (by simp)
                · rw [if_neg c17] at H
                  exact absurd H (by simp)
              · rw [if_neg c16] at H
                exact absurd H (by simp)
      · rw [if_neg c2] at H
        have c2b0 : decide (x5_1 < (l0.length : Int)) = false := decide_eq_false c2
        clear c2
        obtain rfl := Option.some.inj H
        go_wp2
        repeat (go_quiet (fail); try go_wp2)
        go_ret
        exact ⟨_, by first | rfl | (simp [errW_none, errW_some] <;> rfl) | (simp [*, errW_none, errW_some] <;> rfl), by (with_reducible repeat (first | apply Kd.R_alloc | apply Kd.R_drewN | apply Kd.R_drew)); exact HO_3.out, by repeat (first | (with_reducible first | exact HB.out | apply below_alloc | apply pw_below_drewN | apply below_drew1) | exact HB.out)⟩

end Go.Proofs.Ytcjijhjdkgjgeaa.P
namespace Go.Proofs.Ytcjijhjdkgjgeaa.P
open Go.RowKit Go.Proofs.YtcjijhjdkgjgeaaW.PrintWords Go.Proofs.YtcjijhjdkgjgeaaW.PrintLast Go.Proofs.YtcjijhjdkgjgeaaW.PrintMore
attribute [local go_sem] max2_int min2_int max_two min_two max_three min_three max_four min_four   -- for this text's walks alone
set_option linter.unusedVariables false
set_option linter.unusedSimpArgs false

-- PART
/-! ### shrink_made: function 28 (by hand) -/
/-- Blocks of whole numbers. -/
def IntB (W : World) (k : Nat) : Prop := ∃ cells, W.heap[k]? = some (.cells cells 3 (0, 0))
theorem intview {w : World} {base : Nat} {ok : Nat → Prop} {v : Value} {l : List Int} (h : Kd.R (Kd.int .i64) 3 w base ok v l) : Kd.V (Kd.int .i64) 3 w w.heap.size (fun k => IntB w k) v l := by
  refine Kd.R_V (Kd.R_mono (Kd.R_bound h) (fun k hk' => ?_))
  obtain ⟨_, _, _, q, hq, cells, hc⟩ := hk'
  have hq' : q = 3 := by simpa [Kd.int, Kd.scalar] using hq
  subst hq'
  exact ⟨cells, hc⟩
theorem readsP_view {w w1 : World} {A : Option Addr} {n c : Nat} {l : List Int} (h : Kd.V (Kd.int .i64) 3 w1 w.heap.size (fun k => IntB w k) (.slice A n c) l) (hb : Below w.heap.size w w1) : ReadsP w1 A l ∧ n = l.length ∧ l.length ≤ c := by
  refine ⟨fun W hW => (Kd.V_reads' (Kd.V_step h (fun k hk _ => ?_))).2.2, (Kd.V_reads' h).1, by have h1 := (Kd.V_reads' h).1; have h2 := (Kd.V_reads' h).2.1; omega⟩
  obtain ⟨cells, hc⟩ := hk
  have h1 := (hb.block k (heap_ltP hc)).trans hc
  exact (hW.2 k cells _ h1 (by decide) (by decide)).trans h1.symm
theorem steprow_keepP {W W1 : World} {base : Nat} {ok : Nat → Prop} {v : Value} {l : List S87} (h : Kd.R k87 87 W base ok v l) (hk : KeepP W W1) : Kd.R k87 87 W1 base ok v l := by
  refine Kd.R_mono (Kd.R_move (Kd.R_bound h) (fun k hk' => ?_)) (fun _ hk' => hk'.1)
  obtain ⟨_, _, _, q, hq, cells, hc⟩ := hk'
  have hq' : q = 87 := by simpa [k87, Kd.iso, Kd.pair, Kd.int, Kd.scalar] using hq
  subst hq'
  exact (hk.2 k cells _ hc (by decide) (by decide)).trans hc.symm
/-- A row of steps that pens leave. -/
def ReadsS (w : World) (A : Option Addr) (l : List S87) : Prop := ∀ W, KeepP w W → Kd.C k87 W A l.length l
theorem readsS_own {w : World} {base : Nat} {ok : Nat → Prop} {A : Option Addr} {n c : Nat} {l : List S87} (h : Kd.R k87 87 w base ok (.slice A n c) l) : ReadsS w A l ∧ n = l.length ∧ l.length ≤ c :=
  ⟨fun W hW => (Kd.R_reads' (steprow_keepP h hW)).2.2, (Kd.R_reads' h).1, by have h1 := (Kd.R_reads' h).1; have h2 := (Kd.R_reads' h).2.1; omega⟩
theorem ReadsS.keep {w w1 : World} {A : Option Addr} {l : List S87} (h : ReadsS w A l) (hk : KeepP w w1) : ReadsS w1 A l := fun W hW => h W (hk.trans hW)
def ord19 : List Int := [16, 17, 18, 0, 8, 7, 9, 6, 10, 5, 11, 4, 12, 3, 13, 2, 14, 1, 15]
theorem ord19_in : ∀ i : Fin 19, 0 ≤ ord19.getD i.val 0 ∧ ord19.getD i.val 0 < 19 := by decide
/-- How often each symbol of a row stands. -/
def metL : List S87 → List Int → Option (List Int)
  | [], m => some m
  | t :: r, m => if 0 ≤ t.f0 ∧ t.f0 < m.length then metL r (m.set t.f0.toNat (wrap64 (rd m t.f0 + 1))) else none
/-- The lengths' own behind a pen's bits. -/
def lens3 : List Int → List Int × Nat → Option (List Int × Nat)
  | [], s => some s
  | n :: l, s => (addS n 3 s).bind (lens3 l)
/-- A row's symbols behind a pen's bits. -/
def seqL (codes own : List Int) : List S87 → List Int × Nat → Option (List Int × Nat)
  | [], s => some s
  | t :: l, s => (codeS codes own t.f0 s).bind fun s1 => (addS t.f1 t.f2 s1).bind (seqL codes own l)
def madeC (l : List S70) (lits dists own turned : List Int) (row : List S87) (s : List Int × Nat) : Option (List Int × Nat) :=
  if turned.length ≤ 1000000 then (addS (wrap64 (wrap64 ((lits.length : Int) - 256) - 1)) 5 s).bind fun s => (addS (wrap64 ((dists.length : Int) - 1)) 5 s).bind fun s => (addS (wrap64 ((turned.length : Int) - 4)) 4 s).bind fun s =>
    (lens3 turned s).bind fun s => (canon_Codes.f own).bind fun c => (seqL c.1 own row s).bind fun s => bodyS l lits dists s else none
def madeB (l : List S70) (lits dists : List Int) (row : List S87) (s : List Int × Nat) : Option (List Int × Nat) :=
  if row.length ≤ 1000000 then (metL row (List.replicate 19 0)).bind fun met => (tree_Lengths.f met 7).bind fun own => if own.1.length = 19 then (shrink_less.f 400 (ord19.map (rd own.1)) 4).bind fun turned => madeC l lits dists own.1 turned row s else none else none
/-- Tokens by lengths of their own. -/
def madeS (l : List S70) : Option (List Int × Nat) :=
  (beginS 2).bind fun s => (sym_Weights.f 20000 l).bind fun w => (tree_Lengths.f w.1 15).bind fun a => (tree_Lengths.f w.2.1 15).bind fun b =>
    (shrink_less.f 400 a.1 257).bind fun lits => (shrink_less.f 400 b.1 1).bind fun dists => if lits.length + dists.length ≤ 1000000 then
      (shrink_steps.f 200000 (lits ++ dists)).bind fun row => madeB l lits dists row s else none
set_option maxHeartbeats 2000000 in
set_option maxRecDepth 100000 in
theorem shr_made (A0 : Option Addr) (c0 : Nat) (l : List S70) (sr : List Int × Nat) (w : World) (hr0 : ReadsT w A0 l) (hc0 : l.length ≤ c0) (hl : l.length ≤ 1000000) (h : madeS l = some sr) :
    Calls Try.prog 28 #[.slice A0 l.length c0] w fun e w' => ∃ g, e = .returned (.pointer (some ⟨g, 0, none⟩)) ∧ PenAt w w' g sr ∧ Below w.heap.size w w' := by
  unfold madeS at h
  obtain ⟨s1, h1, h⟩ := Option.bind_eq_some_iff.1 h
  obtain ⟨⟨wa, wb, we⟩, h2, h⟩ := Option.bind_eq_some_iff.1 h
  obtain ⟨⟨la, e1⟩, h3, h⟩ := Option.bind_eq_some_iff.1 h
  obtain ⟨⟨lb, e2⟩, h4, h⟩ := Option.bind_eq_some_iff.1 h
  obtain ⟨lits, h5, h⟩ := Option.bind_eq_some_iff.1 h
  obtain ⟨dists, h6, h⟩ := Option.bind_eq_some_iff.1 h
  split at h
  rotate_left
  · cases h
  rename_i hlen
  obtain ⟨row, h7, h⟩ := Option.bind_eq_some_iff.1 h
  simp only at h3 h4 h5 h6 h7 h
  have H1 := Aside0.mk h1
  have H2 := Aside0.mk h2
  have H3 := Aside0.mk h3
  have H4 := Aside0.mk h4
  have H5 := Aside0.mk h5
  have H6 := Aside0.mk h6
  have H7 := Aside0.mk h7
  have H := Aside0.mk h
  have HR := Aside0.mk hr0
  have HLN := Aside0.mk hlen
  clear h1 h2 h3 h4 h5 h6 h7 h hr0 hlen
  go_enter Try.func28, Try.ntmps28
  go_wp2_with fail
  refine (shr_begin 2 s1 w H1.out).mono ?_
  rintro e w1 ⟨g, rfl, hP1, hB1⟩
  have HP1 := Aside0.mk hP1
  have HB1 := Aside0.mk hB1
  clear hP1 hB1 H1
  go_wp2_with fail
  refine (sym_Weights.calls 20000 A0 c0 l wa wb we w1 (HR.out w1 (KeepP.of_below HB1.out)) hc0 H2.out).mono ?_
  rintro e w2 ⟨v1, v2, rfl, ho1, ho2, hb2⟩
  obtain ⟨A1, c1, e1_⟩ := Kd.R_slice ho1
  subst e1_
  obtain ⟨A2, c2, e2_⟩ := Kd.R_slice ho2
  subst e2_
  obtain ⟨ra, _, hca⟩ := readsP_own ho1
  obtain ⟨rb, _, hcb⟩ := readsP_own ho2
  have RB := Aside0.mk rb
  have HP2 := Aside0.mk (HP1.out.below hb2)
  have HB2 := Aside0.mk (below_then HB1.out HB1.out.size hb2)
  have RA := Aside0.mk ra
  clear rb ra hb2 ho1 ho2 HP1 HB1 H2
  go_wp2_with fail
  refine (tree_Lengths.calls A1 c1 wa 15 la e1 w2 RA.out.now hca H3.out).mono ?_
  rintro e w3 ⟨v3, rfl, ho3, hb3⟩
  have HO3 := Aside0.mk ho3
  have RB3 := Aside0.mk (RB.out.keep (KeepP.of_below hb3))
  have HP3 := Aside0.mk (HP2.out.below hb3)
  have HB3 := Aside0.mk (below_then HB2.out HB2.out.size hb3)
  clear hb3 ho3 HP2 HB2 H3 RB RA
  go_wp2_with fail
  refine (tree_Lengths.calls A2 c2 wb 15 lb e2 w3 RB3.out.now hcb H4.out).mono ?_
  rintro e w4 ⟨v4, rfl, ho4, hb4⟩
  obtain ⟨A3, c3, e3⟩ := Kd.R_slice HO3.out
  subst e3
  obtain ⟨A4, c4, e4⟩ := Kd.R_slice ho4
  subst e4
  have HV3 := Aside0.mk (intview (Kd.R_below HO3.out hb4))
  have HO4 := Aside0.mk ho4
  have HP4 := Aside0.mk (HP3.out.below hb4)
  have HB4 := Aside0.mk (below_then HB3.out HB3.out.size hb4)
  clear hb4 ho4 HP3 HB3 H4 RB3 HO3
  go_wp2_with fail
  refine (shrink_less.calls 400 (fun k => IntB w4 k) A3 c3 la 257 lits w4 HV3.out H5.out).mono ?_
  rintro e w5 ⟨v5, rfl, ho5, hb5⟩
  obtain ⟨A5, c5, e5⟩ := Kd.V_slice ho5
  subst e5
  obtain ⟨r5, _, hc5⟩ := readsP_view ho5 hb5
  have RL5 := Aside0.mk r5
  have HV4 := Aside0.mk (intview (Kd.R_below HO4.out hb5))
  have HP5 := Aside0.mk (HP4.out.below hb5)
  have HB5 := Aside0.mk (below_then HB4.out HB4.out.size hb5)
  clear hb5 ho5 r5 HP4 HB4 H5 HV3 HO4
  go_wp2_with fail
  refine (shrink_less.calls 400 (fun k => IntB w5 k) A4 c4 lb 1 dists w5 HV4.out H6.out).mono ?_
  rintro e w6 ⟨v6, rfl, ho6, hb6⟩
  obtain ⟨A6, c6, e6⟩ := Kd.V_slice ho6
  subst e6
  obtain ⟨r6, _, hc6⟩ := readsP_view ho6 hb6
  have RD6 := Aside0.mk r6
  have RL6 := Aside0.mk (RL5.out.keep (KeepP.of_below hb6))
  have HP6 := Aside0.mk (HP5.out.below hb6)
  have HB6 := Aside0.mk (below_then HB5.out HB5.out.size hb6)
  clear hb6 ho6 r6 HP5 HB5 H6 HV4 RL5
  go_wp2_with fail
  have hal : Below w6.heap.size w6 (w6.alloc (.cells #[.slice A5 lits.length c5, .slice A6 dists.length c6] 73)) := (Below.refl _ _).alloc (Nat.le_refl _) _
  have hk0 := KeepP.of_below hal
  refine (concat_two w6.heap.size A5 A6 c5 c6 lits dists (w6.alloc (.cells #[.slice A5 lits.length c5, .slice A6 dists.length c6] 73)) ((blk_cell (blk_new w6 _) 0).trans rfl) ((blk_cell (blk_new w6 _) 1).trans rfl) (RL6.out.keep hk0).now (RD6.out.keep hk0).now hc5 hc6 HLN.out).mono ?_
  rintro e w7 ⟨v7, rfl, ho7, hb7⟩
  have h7_ := H7.out
  generalize lits ++ dists = LL at ho7 h7_
  have H7L := Aside0.mk h7_
  clear h7_ H7
  obtain ⟨A7, c7, e7⟩ := Kd.R_slice ho7
  subst e7
  obtain ⟨r7, _, hc7⟩ := readsP_own ho7
  have R7 := Aside0.mk r7
  have hk7 := hk0.below hb7
  have RL7 := Aside0.mk (RL6.out.keep hk7)
  have RD7 := Aside0.mk (RD6.out.keep hk7)
  have HP7 := Aside0.mk ((HP6.out.below hal).below hb7)
  have HB7 := Aside0.mk (below_then (HB6.out.alloc HB6.out.size _) (HB6.out.alloc HB6.out.size _).size hb7)
  clear hb7 ho7 r7 HP6 HB6 RL6 RD6 hal hk0 hk7
  go_wp2_with fail
  refine (shrink_steps.calls 200000 A7 c7 LL row w7 R7.out.now hc7 H7L.out).mono ?_
  rintro e w8 ⟨v8, rfl, ho8, hb8⟩
  obtain ⟨A8, c8, e8⟩ := Kd.R_slice ho8
  subst e8
  obtain ⟨r8, _, hc8⟩ := readsS_own ho8
  have RS8 := Aside0.mk r8
  have RL8 := Aside0.mk (RL7.out.keep (KeepP.of_below hb8))
  have RD8 := Aside0.mk (RD7.out.keep (KeepP.of_below hb8))
  have HP8 := Aside0.mk (HP7.out.below hb8)
  have HB8 := Aside0.mk (below_then HB7.out HB7.out.size hb8)
  clear hb8 ho8 r8 HP7 HB7 RL7 RD7 R7 H7L
  go_wp2_with fail
  refine (shrink_Order.calls _ w8 rfl).mono ?_
  rintro e w9 ⟨v9, rfl, ho9, hb9⟩
  obtain ⟨g9, c9, e9, hg91, hg92, ocs9, hocs9⟩ := Kd.R_form ho9 (by decide)
  subst e9
  have RS9 := Aside0.mk (RS8.out.keep (KeepP.of_below hb9))
  have RL9 := Aside0.mk (RL8.out.keep (KeepP.of_below hb9))
  have RD9 := Aside0.mk (RD8.out.keep (KeepP.of_below hb9))
  have HP9 := Aside0.mk (HP8.out.below hb9)
  have HB9 := Aside0.mk (below_then HB8.out HB8.out.size hb9)
  clear hb9 ho9 hg91 hg92 hocs9 HP8 HB8 RS8 RL8 RD8
  have hh := H.out
  unfold madeB at hh
  split at hh
  rotate_left
  · cases hh
  rename_i hrl
  obtain ⟨met, hm, hh⟩ := Option.bind_eq_some_iff.1 hh
  have HM := Aside0.mk hm
  have HH := Aside0.mk hh
  clear hm hh H
  go_wp2_with (refine Kd.R_make (Kd.int .i64) (w0 := w9) w9.heap.size 3 rfl rfl 73 (.tmp 53) (.tmp 53) rfl (19 : Int) rfl rfl Try.underlying73 (.int .i64 0) 8 info3 rfl (by decide) (by decide) (0 : Int) (ok := fun _ => True) (okp := fun _ => False) rfl (fun _ hk => hk.elim) trivial (by omega) (by omega) (Below.refl _ _) (Nat.le_refl _) ?_; intro v1 wB ho hb hg hat; (have HO := Aside0.mk ho); (have HBm := Aside0.mk hb); clear ho hb hg hat)
  rw [show (19 : Int).toNat = 19 from rfl] at HO
  obtain ⟨gm, cm, e1_, hgm1, hgm2, ocsm, hocsm⟩ := Kd.R_form HO.out (by decide)
  rw [List.length_replicate] at e1_
  subst e1_
  have HG0 := Aside0.mk hgm1
  clear hocsm hgm1 hgm2
  go_loopg [57] row.length (fun kq v57 w' => ∃ (i : Nat) (mi : List Int), v57 = .int .i64 i ∧ i ≤ row.length ∧ mi.length = 19 ∧ Aside0 (kq + i = row.length) ∧ Aside0 (metL (row.drop i) mi = some met) ∧ Aside0 (Kd.R (Kd.int .i64) 3 w' w9.heap.size (fun _ => True) (.slice (some ⟨gm, 0, none⟩) 19 cm) mi) ∧ Aside0 (Below w9.heap.size w9 w'))
  case atStart => exact ⟨0, _, rfl, Nat.zero_le _, rfl, ⟨rfl⟩, HM, HO, HBm⟩
  case round =>
    clear HM HO HBm
    obtain ⟨i, mi, rfl, hi, hml, HG, HM, HO, HBm⟩ := hrel
    by_cases hlt : i < row.length
    · have h := HM.out
      obtain ⟨t, ht⟩ : ∃ t, t = rd_T87 row (i : Int) := ⟨_, rfl⟩
      have hd : row.drop i = t :: row.drop (i + 1) := by
        rw [ht]
        unfold rd_T87
        rw [Int.toNat_natCast, List.getD_eq_getElem?_getD, List.getElem?_eq_getElem hlt]
        exact List.drop_eq_getElem_cons hlt
      rw [hd] at h
      simp only [metL] at h
      split at h
      rotate_left
      · cases h
      rename_i hq
      have HM2 := Aside0.mk h
      obtain ⟨ad, ead, k0, k1, k2, k3⟩ := at_T87 (RS9.out wr (KeepP.of_below HBm.out)) (i : Int) (by omega) (by omega)
      rw [← ht, Int.toNat_natCast] at k0
      rw [← ht, Int.toNat_natCast] at k1 k2 k3
      subst ead
      clear ht hd h HM
      obtain ⟨q, hq0⟩ : ∃ q : Nat, t.f0 = (q : Int) := ⟨t.f0.toNat, by omega⟩
      have hqi : (q : Int) < 19 := by omega
      have hqn : (0 : Int) ≤ (q : Int) := by omega
      have hq19 : q < 19 := by omega
      rw [hq0] at k0 HM2
      rw [Int.toNat_natCast] at HM2
      clear hq
      have HOa := Aside0.mk (Kd.R_alloc HO.out (.cells #[.int .i64 (q : Int), .int .i64 t.f1, .int .i64 t.f2, .int .i64 t.f3] 87))
      have HBa := Aside0.mk (HBm.out.alloc HBm.out.size (.cells #[.int .i64 (q : Int), .int .i64 t.f1, .int .i64 t.f2, .int .i64 t.f3] 87))
      obtain ⟨hoc, hof⟩ := Kd.R_celln (0 : Int) HOa.out (q : Int) hqn (by omega)
      have HP := Aside0.mk (Kd.R_putn HOa.out (q : Int) (wrap64 (rd mi (q : Int) + 1)))
      have HBp := Aside0.mk (HBa.out.setCell (p := ⟨gm, q, none⟩) HG0.out (.int .i64 (wrap64 (rd mi (q : Int) + 1))))
      rw [Int.toNat_natCast] at hoc hof HP
      rw [show rdOf (0 : Int) mi (q : Int) = rd mi (q : Int) from rfl] at hoc
      obtain ⟨x, hx⟩ : ∃ x, rd mi (q : Int) = x := ⟨_, rfl⟩
      rw [hx] at hoc HP HBp HM2
      clear hx HO HBm HOa HBa
      go_wp2_with fail
      go_roundg (gk - 1)
      case measure => have := HG.out; omega
      case rel => exact ⟨i + 1, _, by go_num, by omega, by rw [List.length_set]; exact hml, ⟨by have := HG.out; omega⟩, HM2, HP, HBp⟩
    obtain rfl : i = row.length := by omega
    have h := HM.out
    rw [List.drop_length] at h
    simp only [metL] at h
    injection h with h
    subst h
    have hh := HH.out
    obtain ⟨⟨own, eo⟩, hown, hh⟩ := Option.bind_eq_some_iff.1 hh
    split at hh
    rotate_left
    · cases hh
    rename_i hol
    obtain ⟨turned, htu, hh⟩ := Option.bind_eq_some_iff.1 hh
    simp only at hol htu hh
    have HOLN := Aside0.mk hol
    clear hol
    have HOW := Aside0.mk hown
    have HTU := Aside0.mk htu
    have HH2 := Aside0.mk hh
    clear hown htu hh HH HM
    go_wp2_with fail
    have hcm := (Kd.R_reads' HO.out).2.1
    have hcall := tree_Lengths.calls (some ⟨gm, 0, none⟩) cm mi 7 own eo wr (Kd.R_reads' HO.out).2.2 (by omega) HOW.out
    rw [hml] at hcall
    refine hcall.mono ?_
    clear hcall
    rintro e w10 ⟨v10, rfl, ho10, hb10⟩
    obtain ⟨A10, c10, e10⟩ := Kd.R_slice ho10
    subst e10
    obtain ⟨r10, _, hc10⟩ := readsP_own ho10
    have RO10 := Aside0.mk r10
    have hk10 := (KeepP.of_below HBm.out).below hb10
    have RS10 := Aside0.mk (RS9.out.keep hk10)
    have RL10 := Aside0.mk (RL9.out.keep hk10)
    have RD10 := Aside0.mk (RD9.out.keep hk10)
    have HP10 := Aside0.mk ((HP9.out.below HBm.out).below hb10)
    have HB10 := Aside0.mk (below_then (below_then HB9.out HB9.out.size HBm.out) (below_then HB9.out HB9.out.size HBm.out).size hb10)
    clear hb10 ho10 r10 hk10 hcm RS9 RL9 RD9 HP9 HB9 HO HBm HOW hml
    go_wp2_with fail
    refine (shrink_Order.calls _ w10 rfl).mono ?_
    rintro e w11 ⟨v11, rfl, ho11, hb11⟩
    obtain ⟨A11, c11, e11⟩ := Kd.R_slice ho11
    subst e11
    obtain ⟨r11, _, hc11⟩ := readsP_own ho11
    have ROR := Aside0.mk (show ReadsP w11 A11 ord19 from r11)
    have hl19 : ([16, 17, 18, 0, 8, 7, 9, 6, 10, 5, 11, 4, 12, 3, 13, 2, 14, 1, 15] : List Int).length = 19 := rfl
    have hk11 := KeepP.of_below hb11
    have RO11 := Aside0.mk (RO10.out.keep hk11)
    have RS11 := Aside0.mk (RS10.out.keep hk11)
    have RL11 := Aside0.mk (RL10.out.keep hk11)
    have RD11 := Aside0.mk (RD10.out.keep hk11)
    have HP11 := Aside0.mk (HP10.out.below hb11)
    have HB11 := Aside0.mk (below_then HB10.out HB10.out.size hb11)
    clear hb11 ho11 r11 hk11 RO10 RS10 RL10 RD10 HP10 HB10 hc11
    obtain ⟨T0, hT0⟩ : ∃ T0, T0 = ord19.map (rd own) := ⟨_, rfl⟩
    rw [← hT0] at HTU
    have HT0 := Aside0.mk hT0
    clear hT0
    go_wp2_with fail
    go_loopg [17, 76] 19 (fun kq v17 v76 w' => ∃ (i : Nat) (o : List Int), v76 = .int .i64 i ∧ i ≤ 19 ∧ Aside0 (kq + i = 19) ∧ Aside0 (o = T0.take i) ∧ Aside0 (Kd.R (Kd.int .i64) 3 w' w11.heap.size (fun _ => True) v17 o) ∧ Aside0 (Below w11.heap.size w11 w'))
    case atStart => exact ⟨0, [], rfl, Nat.zero_le _, ⟨rfl⟩, ⟨rfl⟩, ⟨Kd.R_nil _ _ _ _ _⟩, ⟨Below.refl _ _⟩⟩
    case round =>
      obtain ⟨i, o, rfl, hi, HG, HJ, HO, HBm⟩ := hrel
      obtain ⟨A9, c9, e9⟩ := Kd.R_slice HO.out
      subst e9
      by_cases hlt : i < 19
      · have hx := ord19_in ⟨i, hlt⟩
        simp only at hx
        obtain ⟨q, hq⟩ : ∃ q : Nat, ord19.getD i 0 = (q : Int) := ⟨(ord19.getD i 0).toNat, by omega⟩
        have hq19 : (q : Int) < 19 := by omega
        have hq0 : (0 : Int) ≤ (q : Int) := by omega
        have HJL := Aside0.mk (show o.length ≤ 1000000 from by rw [HJ.out, List.length_take]; omega)
        obtain ⟨ad, ead, k0⟩ := Kd.at_int (ROR.out.keep (KeepP.of_below HBm.out)).now (i : Int) (by omega) (by show (i : Int) < 19; omega)
        rw [show rd ord19 (i : Int) = (q : Int) from by unfold rd; rw [Int.toNat_natCast]; exact hq, Int.toNat_natCast] at k0
        subst ead
        obtain ⟨ad2, ead2, k1⟩ := Kd.at_int (RO11.out.keep (KeepP.of_below HBm.out)).now (q : Int) hq0 (by rw [HOLN.out]; exact hq19)
        subst ead2
        obtain ⟨x, hx2⟩ : ∃ x, x = rd own (q : Int) := ⟨_, rfl⟩
        rw [← hx2, Int.toNat_natCast] at k1
        have HX := Aside0.mk (show x = rd own (ord19.getD i 0) from by rw [hq]; exact hx2)
        clear hx2 hq hx
        have hqo : (q : Int) < (own.length : Int) := by rw [HOLN.out]; exact hq19
        go_wp2_with ((with_reducible refine gate_builtin (b := .append) (xs := #[.tmp 80, .tmp 85]) rfl ?_); at_builtin; refine Kd.R_append (Kd.int .i64) (w0 := w11) w11.heap.size rfl (.tmp 80) (.tmp 85) 73 3 (.int .i64 0) 8 rfl Try.underlying73 info3 rfl (by decide) (by omega) (.slice A9 o.length c9) o x [.int .i64 x] (fun _ => True) (fun _ => False) rfl rfl rfl (fun _ hk => hk.elim) (fun _ _ => trivial) HO.out HBm.out HBm.out.size (by have := HJL.out; omega) ?_; intro v5 w12 ho hb hg hat; (have HN5 := Aside0.mk (And.intro ho hb)); clear ho hb hg hat)
        obtain ⟨ho, hb⟩ := HN5.out
        go_roundg (gk - 1)
        case measure => have := HG.out; omega
        case rel =>
          refine ⟨i + 1, _, by go_num, by omega, ⟨by have := HG.out; omega⟩, ⟨?_⟩, ⟨ho⟩, ⟨hb⟩⟩
          have hT : T0[i]? = some x := by rw [HT0.out, HX.out, List.getElem?_map, List.getD_eq_getElem?_getD, List.getElem?_eq_getElem (show i < ord19.length from hlt)]; rfl
          rw [HJ.out, List.take_add_one, hT]; rfl
      obtain rfl : i = 19 := by omega
      have hjo : o = T0 := by rw [HJ.out]; exact List.take_of_length_le (by rw [HT0.out, List.length_map]; decide)
      subst hjo
      go_wp2_with fail
      refine (shrink_less.calls 400 (fun k => IntB wr k) A9 c9 o 4 turned wr (intview HO.out) HTU.out).mono ?_
      rintro e w12 ⟨v12, rfl, ho12, hb12⟩
      obtain ⟨A12, c12, e12⟩ := Kd.V_slice ho12
      subst e12
      obtain ⟨r12, _, hc12⟩ := readsP_view ho12 hb12
      have RT12 := Aside0.mk r12
      have hk12 := (KeepP.of_below HBm.out).below hb12
      have RO12 := Aside0.mk (RO11.out.keep hk12)
      have RS12 := Aside0.mk (RS11.out.keep hk12)
      have RL12 := Aside0.mk (RL11.out.keep hk12)
      have RD12 := Aside0.mk (RD11.out.keep hk12)
      have HP12 := Aside0.mk ((HP11.out.below HBm.out).below hb12)
      have HB12 := Aside0.mk (below_then (below_then HB11.out HB11.out.size HBm.out) (below_then HB11.out HB11.out.size HBm.out).size hb12)
      clear hb12 ho12 r12 hk12 RO11 RS11 RL11 RD11 HP11 HB11 ROR HO HBm HTU HJ HT0 HG
      have hh := HH2.out
      unfold madeC at hh
      split at hh
      rotate_left
      · cases hh
      rename_i htl
      have HTL := Aside0.mk htl
      clear htl
      obtain ⟨s13, h13, hh⟩ := Option.bind_eq_some_iff.1 hh
      obtain ⟨s14, h14, hh⟩ := Option.bind_eq_some_iff.1 hh
      obtain ⟨s15, h15, hh⟩ := Option.bind_eq_some_iff.1 hh
      obtain ⟨s16, h16, hh⟩ := Option.bind_eq_some_iff.1 hh
      obtain ⟨⟨codes, ec⟩, h17, hh⟩ := Option.bind_eq_some_iff.1 hh
      obtain ⟨s18, h18, hh⟩ := Option.bind_eq_some_iff.1 hh
      simp only at h18 hh
      have H13 := Aside0.mk h13
      have H14 := Aside0.mk h14
      have H15 := Aside0.mk h15
      have H16 := Aside0.mk h16
      have H17 := Aside0.mk h17
      have H18 := Aside0.mk h18
      have H19 := Aside0.mk hh
      clear hh h13 h14 h15 h16 h17 h18 HH2
      go_wp2_with fail
      refine (pen_more g _ 5 s1 s13 w w12 HP12.out HB12.out H13.out).mono ?_
      rintro e w13 ⟨rfl, hP13, hB13, hK13⟩
      have HP13 := Aside0.mk hP13
      have HB13 := Aside0.mk hB13
      have HK13 := Aside0.mk hK13
      clear hP13 hB13 hK13 HP12 HB12 H13
      go_wp2_with fail
      refine (pen_more g _ 5 s13 s14 w w13 HP13.out HB13.out H14.out).mono ?_
      rintro e w14 ⟨rfl, hP14, hB14, hK14⟩
      have HP14 := Aside0.mk hP14
      have HB14 := Aside0.mk hB14
      have HK14 := Aside0.mk (HK13.out.trans hK14)
      clear hP14 hB14 hK14 HP13 HB13 HK13 H14
      go_wp2_with fail
      refine (pen_more g _ 4 s14 s15 w w14 HP14.out HB14.out H15.out).mono ?_
      rintro e w15 ⟨rfl, hP15, hB15, hK15⟩
      have HP15 := Aside0.mk hP15
      have HB15 := Aside0.mk hB15
      have HK15 := Aside0.mk (HK14.out.trans hK15)
      clear hP15 hB15 hK15 HP14 HB14 HK14 H15
      go_wp2_with fail
      go_loopg [114] turned.length (fun kq v114 w' => ∃ (i : Nat) (si : List Int × Nat), v114 = .int .i64 i ∧ i ≤ turned.length ∧ Aside0 (kq + i = turned.length) ∧ Aside0 (lens3 (turned.drop i) si = some s16) ∧ Aside0 (PenAt w w' g si) ∧ Aside0 (Below w.heap.size w w') ∧ Aside0 (KeepP w12 w'))
      case atStart => exact ⟨0, s15, rfl, Nat.zero_le _, ⟨by omega⟩, H16, HP15, HB15, HK15⟩
      case round =>
        clear H16 HP15 HB15 HK15
        obtain ⟨i, si, rfl, hi, HG, HL, HP, HB, HK⟩ := hrel
        have htl := HTL.out
        by_cases hlt : i < turned.length
        · have h := HL.out
          obtain ⟨ad, ead, k0⟩ := Kd.at_int (RT12.out.keep HK.out).now (i : Int) (by omega) (by omega)
          obtain ⟨t, ht⟩ : ∃ t, t = rd turned (i : Int) := ⟨_, rfl⟩
          rw [← ht, Int.toNat_natCast] at k0
          have hd : turned.drop i = t :: turned.drop (i + 1) := by
            rw [ht]
            unfold rd
            rw [Int.toNat_natCast, List.getD_eq_getElem?_getD, List.getElem?_eq_getElem hlt]
            exact List.drop_eq_getElem_cons hlt
          rw [hd] at h
          simp only [lens3] at h
          obtain ⟨s5, h5, h⟩ := Option.bind_eq_some_iff.1 h
          have H5 := Aside0.mk h5
          have HL1 := Aside0.mk h
          clear h h5 HL hd ht
          subst ead
          go_wp2_with fail
          refine (pen_more g t 3 si s5 w _ HP.out HB.out H5.out).mono ?_
          rintro e w5 ⟨rfl, hP5, hB5, hK5⟩
          have HP5 := Aside0.mk hP5
          have HB5 := Aside0.mk hB5
          have HK5 := Aside0.mk (HK.out.trans hK5)
          clear hP5 hB5 hK5 HP HB HK
          go_wp2_with fail
          go_roundg (gk - 1)
          case measure => have := HG.out; omega
          case rel => exact ⟨i + 1, s5, by go_num, by omega, ⟨by have := HG.out; omega⟩, HL1, HP5, HB5, HK5⟩
        obtain rfl : i = turned.length := by omega
        have h := HL.out
        rw [List.drop_length] at h
        simp only [lens3] at h
        injection h with h
        subst h
        go_wp2_with fail
        refine (canon_Codes.calls A10 c10 own codes ec wr (RO12.out.keep HK.out).now hc10 H17.out).mono ?_
        rintro e w17 ⟨v17, rfl, ho17, hb17⟩
        obtain ⟨A17, c17, e17⟩ := Kd.R_slice ho17
        subst e17
        obtain ⟨r17, _, hc17⟩ := readsP_own ho17
        have RC17 := Aside0.mk r17
        have hk17 := HK.out.below hb17
        have RO17 := Aside0.mk (RO12.out.keep hk17)
        have RS17 := Aside0.mk (RS12.out.keep hk17)
        have RL17 := Aside0.mk (RL12.out.keep hk17)
        have RD17 := Aside0.mk (RD12.out.keep hk17)
        have HP17 := Aside0.mk (HP.out.below hb17)
        have HB17 := Aside0.mk (below_then HB.out HB.out.size hb17)
        clear hb17 ho17 r17 hk17 RO12 RS12 RL12 RD12 HP HB HK RT12 H17 HL HG
        go_wp2_with fail
        go_loopg [131] row.length (fun kq v131 w' => ∃ (i : Nat) (si : List Int × Nat), v131 = .int .i64 i ∧ i ≤ row.length ∧ Aside0 (kq + i = row.length) ∧ Aside0 (seqL codes own (row.drop i) si = some s18) ∧ Aside0 (PenAt w w' g si) ∧ Aside0 (Below w.heap.size w w') ∧ Aside0 (KeepP w17 w'))
        case atStart => exact ⟨0, _, rfl, Nat.zero_le _, ⟨by omega⟩, H18, HP17, HB17, ⟨KeepP.refl _⟩⟩
        case round =>
          clear H18 HP17 HB17
          obtain ⟨i, si, rfl, hi, HG, HL, HP, HB, HK⟩ := hrel
          by_cases hlt : i < row.length
          · have h := HL.out
            obtain ⟨ad, ead, k0, k1, k2, k3⟩ := at_T87 (RS17.out wr HK.out) (i : Int) (by omega) (by omega)
            obtain ⟨t, ht⟩ : ∃ t, t = rd_T87 row (i : Int) := ⟨_, rfl⟩
            rw [← ht, Int.toNat_natCast] at k0
            rw [← ht, Int.toNat_natCast] at k1 k2 k3
            have hd : row.drop i = t :: row.drop (i + 1) := by
              rw [ht]
              unfold rd_T87
              rw [Int.toNat_natCast, List.getD_eq_getElem?_getD, List.getElem?_eq_getElem hlt]
              exact List.drop_eq_getElem_cons hlt
            rw [hd] at h
            simp only [seqL] at h
            obtain ⟨s5, h5, h⟩ := Option.bind_eq_some_iff.1 h
            obtain ⟨s6, h6, h⟩ := Option.bind_eq_some_iff.1 h
            have H5 := Aside0.mk h5
            have H6 := Aside0.mk h6
            have HL1 := Aside0.mk h
            clear h h5 h6 HL hd ht
            subst ead
            have hal : Below wr.heap.size wr (wr.alloc (.cells #[.int .i64 t.f0, .int .i64 t.f1, .int .i64 t.f2, .int .i64 t.f3] 87)) := (Below.refl _ _).alloc (Nat.le_refl _) _
            have HAL := Aside0.mk hal
            have BT := Aside0.mk (blk_new wr (.cells #[.int .i64 t.f0, .int .i64 t.f1, .int .i64 t.f2, .int .i64 t.f3] 87))
            clear hal
            go_wp2_with fail
            have hk0 := HK.out.trans (KeepP.of_below HAL.out)
            refine (pen_code g A17 A10 c17 c10 codes own t.f0 si s5 w _ (HP.out.below HAL.out) (HB.out.alloc HB.out.size _) (RC17.out.keep hk0).now hc17 (RO17.out.keep hk0).now hc10 H5.out).mono ?_
            rintro e w5 ⟨rfl, hP5, hB5, hK5⟩
            have HP5 := Aside0.mk hP5
            have HB5 := Aside0.mk hB5
            have HK5 := Aside0.mk (hk0.trans hK5)
            have BT5 := Aside0.mk (hK5.2 _ _ _ BT.out (by decide) (by decide))
            clear hP5 hB5 hK5 HP HB HK hk0 BT HAL H5
            have hcz1 : w5.cell? ⟨wr.heap.size, 1, none⟩ = some (.int .i64 t.f1) := (blk_cell BT5.out 1).trans rfl
            have hcz2 : w5.cell? ⟨wr.heap.size, 2, none⟩ = some (.int .i64 t.f2) := (blk_cell BT5.out 2).trans rfl
            go_upto_region 34 with fail
            go_region_with (go_at_call 24; refine (pen_more g t.f1 t.f2 s5 s6 w w5.drew (HP5.out.below (Below.refl _ _).drew) HB5.out.drew H6.out).mono ?_; rintro e w6 ⟨rfl, hP6, hB6, hK6⟩; have HP6 := Aside0.mk hP6; have HB6 := Aside0.mk hB6; have HK6 := Aside0.mk ((HK5.out.below (Below.refl _ w5).drew).trans hK6); clear hP6 hB6 hK6)
            all_goals
              clear HP5 HB5 HK5 BT5 hcz1 hcz2 H6
              go_wp2_with fail
              go_roundg (gk - 1)
              case measure => have := HG.out; omega
              case rel => exact ⟨i + 1, s6, by go_num, by omega, ⟨by have := HG.out; omega⟩, HL1, HP6, HB6, HK6⟩
          obtain rfl : i = row.length := by omega
          have h := HL.out
          rw [List.drop_length] at h
          simp only [seqL] at h
          injection h with h
          subst h
          go_wp2_with fail
          refine (pen_body g A0 A5 A6 c0 c5 c6 l lits dists _ sr w wr HP.out HB.out (ReadsT.keep HR.out (KeepP.of_below HB.out)) hc0 hl (RL17.out.keep HK.out) hc5 (RD17.out.keep HK.out) hc6 H19.out).mono ?_
          rintro e w19 ⟨rfl, hP19, hB19, _⟩
          go_wp2_with fail
          go_ret
          exact ⟨g, rfl, hP19, hB19⟩

-- PART
end Go.Proofs.Ytcjijhjdkgjgeaa.P
namespace Go.Proofs.Ytcjijhjdkgjgeaa.P
open Go.RowKit Go.Proofs.YtcjijhjdkgjgeaaW.PrintWords Go.Proofs.YtcjijhjdkgjgeaaW.PrintLast Go.Proofs.YtcjijhjdkgjgeaaW.PrintMore
attribute [local go_sem] max2_int min2_int max_two min_two max_three min_three max_four min_four   -- for this text's walks alone
set_option linter.unusedVariables false
set_option linter.unusedSimpArgs false

-- PART
/-! ### shrink_Shrink: function 18 (by hand) -/
/-- The block of the fewest bits, of two: the first one, if they have as many. -/
def pick2 (p k : List Int × Nat) : List Int × Nat := if k.2 < p.2 then k else p
def shrink_Shrink.f (l0 : List Int) : Option (List Int × Int) := (match_Tokens.f l0).bind fun t => if t.2 = 0 then (if t.1.length ≤ 1000000 ∧ l0.length ≤ 1000000 then (plainS l0).bind fun p => (knownS t.1).bind fun k => (madeS t.1).bind fun m => some ((pick2 (pick2 p k) m).1, 0) else none) else some ([], t.2)
theorem PenAt.lower {w w1 W : World} {g : Nat} {s : List Int × Nat} (h : PenAt w1 W g s) (hs : w.heap.size ≤ w1.heap.size) : PenAt w W g s := by
  obtain ⟨v, h1, h2, h3⟩ := h
  exact ⟨v, h1, Nat.le_trans hs h2, Kd.R_lower h3 hs⟩
set_option maxHeartbeats 1000000 in
set_option maxRecDepth 100000 in
theorem shrink_Shrink.calls (A0 : Option Addr) (c0 : Nat) (l0 : List Int) (r1 : List Int) (r2 : Int) (w : World) (hr0 : Kd.C (Kd.int .u8) w A0 l0.length l0) (hc0 : l0.length ≤ c0) (h : shrink_Shrink.f l0 = some (r1, r2)) :
    Calls Try.prog 18 #[.slice A0 l0.length c0] w fun e w' => ∃ v0_ : Value, e = .returned (.tuple #[v0_, .int .i64 r2]) ∧ Kd.R (Kd.int .u8) 5 w' w.heap.size (fun _ => True) v0_ r1 ∧ Below w.heap.size w w' := by
  unfold shrink_Shrink.f at h
  obtain ⟨⟨t, e0⟩, h1, h⟩ := Option.bind_eq_some_iff.1 h
  simp only at h
  have H1 := Aside0.mk h1
  have H := Aside0.mk h
  have HR := Aside0.mk hr0
  clear h1 h hr0
  go_enter Try.func18, Try.ntmps18
  go_wp2_with fail
  refine (match_Tokens.calls A0 c0 l0 t e0 w HR.out hc0 H1.out).mono ?_
  rintro e w1 ⟨v1, rfl, ho, hb⟩
  obtain ⟨A1, c1, e1⟩ := Kd.R_slice ho
  subst e1
  obtain ⟨r1, _, hc1⟩ := readsT_own ho
  have HR1 := Aside0.mk r1
  have HB1 := Aside0.mk hb
  have h := H.out
  clear ho r1 hb H
  by_cases h0 : e0 = 0
  rotate_left
  · have d0 : (e0 != 0) = true := bne_iff_ne.2 h0
    rw [if_neg h0] at h
    injection h with h
    injection h with h1 h2
    subst h1 h2
    go_wp2_with fail
    go_ret2
    exact ⟨_, rfl, Kd.R_nil _ _ _ _ _, HB1.out⟩
  have d0 : (e0 != 0) = false := by rw [h0]; rfl
  rw [if_pos h0] at h
  split at h
  rotate_left
  · cases h
  rename_i hl
  obtain ⟨p, hp, h⟩ := Option.bind_eq_some_iff.1 h
  obtain ⟨k, hk, h⟩ := Option.bind_eq_some_iff.1 h
  obtain ⟨m, hm, h⟩ := Option.bind_eq_some_iff.1 h
  injection h with h
  injection h with h1 h2
  have HP := Aside0.mk hp
  have HK := Aside0.mk hk
  have HM := Aside0.mk hm
  have HE1 := Aside0.mk h1
  have HE2 := Aside0.mk h2
  clear hp hk hm h1 h2
  go_wp2_with fail
  refine (shr_plain A0 c0 l0 p w1 (Kd.C_below HR.out HB1.out) hc0 hl.2 HP.out).mono ?_
  rintro e w2 ⟨g1, rfl, hP1, hB2⟩
  have P1 := Aside0.mk (hP1.lower HB1.out.size)
  have HB2 := Aside0.mk (below_then HB1.out HB1.out.size hB2)
  have HR2 := Aside0.mk (HR1.out.keep (KeepP.of_below hB2))
  clear hP1 hB2 HR1 HB1 HP
  go_wp2_with fail
  refine (shr_known A1 c1 t k w2 HR2.out hc1 hl.1 HK.out).mono ?_
  rintro e w3 ⟨g2, rfl, hP2, hB3⟩
  have P2 := Aside0.mk (hP2.lower HB2.out.size)
  have P1b := Aside0.mk (P1.out.below hB3)
  have HB3 := Aside0.mk (below_then HB2.out HB2.out.size hB3)
  have HR3 := Aside0.mk (HR2.out.keep (KeepP.of_below hB3))
  clear hP2 hB3 HR2 HB2 HK P1
  go_wp2_with fail
  refine (shr_made A1 c1 t m w3 HR3.out hc1 hl.1 HM.out).mono ?_
  rintro e w4 ⟨g3, rfl, hP3, hB4⟩
  have P3 := Aside0.mk (hP3.lower HB3.out.size)
  have P2b := Aside0.mk (P2.out.below hB4)
  have P1c := Aside0.mk (P1b.out.below hB4)
  have HB4 := Aside0.mk (below_then HB3.out HB3.out.size hB4)
  clear hP3 hB4 HR3 HB3 HM P2 P1b hl
  go_wp2_with fail
  have hal : Below w4.heap.size w4 (w4.alloc (.cells #[.pointer (some ⟨g2, 0, none⟩), .pointer (some ⟨g3, 0, none⟩)] 61)) := (Below.refl _ _).alloc (Nat.le_refl _) _
  have BL := Aside0.mk (blk_new w4 (.cells #[.pointer (some ⟨g2, 0, none⟩), .pointer (some ⟨g3, 0, none⟩)] 61))
  have Q1 := Aside0.mk (P1c.out.below hal)
  have Q2 := Aside0.mk (P2b.out.below hal)
  have Q3 := Aside0.mk (P3.out.below hal)
  have HB5 := Aside0.mk (below_then HB4.out HB4.out.size hal)
  clear hal P1c P2b P3 HB4
  generalize w4.alloc (.cells #[.pointer (some ⟨g2, 0, none⟩), .pointer (some ⟨g3, 0, none⟩)] 61) = w5 at BL Q1 Q2 Q3 HB5 ⊢
  generalize w4.heap.size = gl at BL ⊢
  go_loopg [6, 25] 2 (fun kq v6 v25 w' => ∃ (i : Nat) (gi : Nat) (si : List Int × Nat), v25 = .int .i64 i ∧ v6 = .pointer (some ⟨gi, 0, none⟩) ∧ i ≤ 2 ∧ Aside0 (kq + i = 2) ∧ Aside0 ((i = 0 → si = p) ∧ (i = 1 → si = pick2 p k) ∧ (i = 2 → si = pick2 (pick2 p k) m)) ∧ Aside0 (PenAt w w5 gi si) ∧ Aside0 (Below w5.heap.size w5 w'))
  case atStart => exact ⟨0, g1, p, rfl, rfl, by omega, ⟨rfl⟩, ⟨fun _ => rfl, fun h => by omega, fun h => by omega⟩, Q1, ⟨Below.refl _ _⟩⟩
  case round =>
    obtain ⟨i, gi, si, rfl, rfl, hi, HG, HS, HP, HB⟩ := hrel
    have h3 : i = 0 ∨ i = 1 ∨ i = 2 := by omega
    rcases h3 with rfl | rfl | rfl
    · have hP := HP.out.below HB.out
      obtain ⟨_, _, hgi, _, _⟩ := hP.cell
      obtain ⟨_, _, hgk, _, _⟩ := (Q2.out.below HB.out).cell
      have hci : wr.cell? ⟨gi, 1, none⟩ = some (.int .i64 (si.2 : Int)) := (blk_cell hgi 1).trans rfl
      have hck : wr.cell? ⟨g2, 1, none⟩ = some (.int .i64 (k.2 : Int)) := (blk_cell hgk 1).trans rfl
      have hbl := (HB.out.block gl (heap_ltP BL.out)).trans BL.out
      have hc0 : wr.cell? ⟨gl, 0, none⟩ = some (.pointer (some ⟨g2, 0, none⟩)) := (blk_cell hbl 0).trans rfl
      have hc1 : wr.cell? ((⟨gl, 0, none⟩ : Addr).add 0) = some (.pointer (some ⟨g2, 0, none⟩)) := hc0
      clear hP hgi hgk hbl
      by_cases hlt : k.2 < si.2
      · have d1 : decide (k.2 < si.2) = true := decide_eq_true hlt
        have HLT := Aside0.mk hlt
        clear hlt
        go_upto_region 8 with fail
        refine start_ (n := 13) (S := fun w' => w'.cell? ⟨g2, 1, none⟩ = some (.int .i64 (k.2 : Int)) ∧ w'.cell? ⟨gi, 1, none⟩ = some (.int .i64 (si.2 : Int))) (ds := []) #[false, false, false, false, false, false, false, false, false, false, false, false, false] (by kernel_rfl) rfl rfl ⟨hck, hci⟩ (fun hHeld => ?_)
        refine pure_ (i := 0) (N := some 29) (v := ?_) (a' := ?_) #[true, false, false, false, false, false, false, false, false, false, false, false, false] rfl rfl (by kernel_rfl) (fun _ _ _ h => h) (Or.inl ⟨by rfl, ?_⟩) ?_ ?_
        rotate_left
        · intro w'
          go_simp
          with_reducible rfl
        rotate_left
        · simp only [Act.put, List.setIfInBounds_toArray, List.set_cons_zero, List.set_cons_succ, i64_w, i32_w]
          rfl
        refine pure_ (i := 1) (N := some 30) (v := ?_) (a' := ?_) #[true, true, false, false, false, false, false, false, false, false, false, false, false] rfl rfl (by kernel_rfl) (fun _ _ _ h => h) (Or.inl ⟨by rfl, ?_⟩) ?_ ?_
        rotate_left
        · intro w'
          go_simp
          with_reducible rfl
        rotate_left
        · simp only [Act.put, List.setIfInBounds_toArray, List.set_cons_zero, List.set_cons_succ, i64_w, i32_w]
          rfl
        refine pure_ (i := 2) (N := some 31) (v := ?_) (a' := ?_) #[true, true, true, false, false, false, false, false, false, false, false, false, false] rfl rfl (by kernel_rfl) (fun _ _ _ h => h) (Or.inl ⟨by rfl, ?_⟩) ?_ ?_
        rotate_left
        · intro w'
          go_simp
          with_reducible rfl
        rotate_left
        · simp only [Act.put, List.setIfInBounds_toArray, List.set_cons_zero, List.set_cons_succ, i64_w, i32_w]
          rfl
        refine pure_ (i := 3) (N := some 32) (v := ?_) (a' := ?_) #[true, true, true, true, false, false, false, false, false, false, false, false, false] rfl rfl (by kernel_rfl) (fun _ _ _ h => h) (Or.inl ⟨by rfl, ?_⟩) ?_ ?_
        rotate_left
        · intro w'
          go_simp
          with_reducible rfl
        rotate_left
        · simp only [Act.put, List.setIfInBounds_toArray, List.set_cons_zero, List.set_cons_succ, i64_w, i32_w]
          rfl
        refine pure_ (i := 4) (N := some 33) (v := ?_) (a' := ?_) #[true, true, true, true, true, false, false, false, false, false, false, false, false] rfl rfl (by kernel_rfl) (fun _ _ _ h => h) (Or.inl ⟨by rfl, ?_⟩) ?_ ?_
        rotate_left
        · intro w'
          go_simp
          with_reducible rfl
        rotate_left
        · simp only [Act.put, List.setIfInBounds_toArray, List.set_cons_zero, List.set_cons_succ, i64_w, i32_w]
          rfl
        refine pure_ (i := 6) (N := some 35) (v := ?_) (a' := ?_) #[true, true, true, true, true, false, true, false, false, false, false, false, false] rfl rfl (by kernel_rfl) (fun _ _ _ h => h) (Or.inl ⟨by rfl, ?_⟩) ?_ ?_
        rotate_left
        · intro w'
          go_simp
          with_reducible rfl
        rotate_left
        · simp only [Act.put, List.setIfInBounds_toArray, List.set_cons_zero, List.set_cons_succ, i64_w, i32_w]
          rfl
        refine pure_ (i := 7) (N := some 36) (v := ?_) (a' := ?_) #[true, true, true, true, true, false, true, true, false, false, false, false, false] rfl rfl (by kernel_rfl) (fun _ _ _ h => h) (Or.inl ⟨by rfl, ?_⟩) ?_ ?_
        rotate_left
        · intro w'
          go_simp
          with_reducible rfl
        rotate_left
        · simp only [Act.put, List.setIfInBounds_toArray, List.set_cons_zero, List.set_cons_succ, i64_w, i32_w]
          rfl
        refine pure_ (i := 8) (N := some 37) (v := ?_) (a' := ?_) #[true, true, true, true, true, false, true, true, true, false, false, false, false] rfl rfl (by kernel_rfl) (fun _ _ _ h => h) (Or.inl ⟨by rfl, ?_⟩) ?_ ?_
        rotate_left
        · intro w'
          go_simp
          with_reducible rfl
        rotate_left
        · simp only [Act.put, List.setIfInBounds_toArray, List.set_cons_zero, List.set_cons_succ, i64_w, i32_w]
          rfl
        refine pure_ (i := 9) (N := some 38) (v := ?_) (a' := ?_) #[true, true, true, true, true, false, true, true, true, true, false, false, false] rfl rfl (by kernel_rfl) (fun _ _ _ h => h) (Or.inl ⟨by rfl, ?_⟩) ?_ ?_
        rotate_left
        · intro w'
          go_simp
          with_reducible rfl
        rotate_left
        · simp only [Act.put, List.setIfInBounds_toArray, List.set_cons_zero, List.set_cons_succ, i64_w, i32_w]
          rfl
        refine pure_ (i := 10) (N := some 39) (v := ?_) (a' := ?_) #[true, true, true, true, true, false, true, true, true, true, true, false, false] rfl rfl (by kernel_rfl) (fun _ _ _ h => h) (Or.inl ⟨by rfl, ?_⟩) ?_ ?_
        rotate_left
        · intro w'
          go_simp
          with_reducible rfl
        rotate_left
        · simp only [Act.put, List.setIfInBounds_toArray, List.set_cons_zero, List.set_cons_succ, i64_w, i32_w]
          rfl
        refine take_ (i := 5) (N := some 34) (v := ?_) (a' := ?_) #[true, true, true, true, true, true, true, true, true, true, true, false, false] rfl rfl (by kernel_rfl) (fun _ _ _ h => h) (Or.inl ⟨by rfl, ?_⟩) hHeld ?_ ?_
        rotate_left
        · rintro w' ⟨s0, s1⟩
          go_simp
          with_reducible rfl
        rotate_left
        · simp only [Act.put, List.setIfInBounds_toArray, List.set_cons_zero, List.set_cons_succ, i64_w, i32_w]
          rfl
        refine take_ (i := 11) (N := some 40) (v := ?_) (a' := ?_) #[true, true, true, true, true, true, true, true, true, true, true, true, false] rfl rfl (by kernel_rfl) (fun _ _ _ h => h) (Or.inl ⟨by rfl, ?_⟩) hHeld ?_ ?_
        rotate_left
        · rintro w' ⟨s0, s1⟩
          go_simp
          with_reducible rfl
        rotate_left
        · simp only [Act.put, List.setIfInBounds_toArray, List.set_cons_zero, List.set_cons_succ, i64_w, i32_w]
          rfl
        refine pure_ (i := 12) (N := some 41) (v := ?_) (a' := ?_) #[true, true, true, true, true, true, true, true, true, true, true, true, true] rfl rfl (by kernel_rfl) (fun _ _ _ h => h) (Or.inl ⟨by rfl, ?_⟩) ?_ ?_
        rotate_left
        · intro w'
          go_simp
          with_reducible rfl
        rotate_left
        · simp only [Act.put, List.setIfInBounds_toArray, List.set_cons_zero, List.set_cons_succ, i64_w, i32_w]
          rfl
        refine done_ (by kernel_rfl) ?_
        go_wp2_with fail
        go_roundg (gk - 1)
        case measure => have := HG.out; omega
        case rel => exact ⟨1, g2, k, rfl, rfl, by omega, ⟨by have := HG.out; omega⟩, ⟨fun h => by omega, fun _ => by have := HS.out.1 (by decide); subst this; unfold pick2; rw [if_pos HLT.out], fun h => by omega⟩, Q2, ⟨HB.out.drew⟩⟩
      · have d1 : decide (k.2 < si.2) = false := decide_eq_false hlt
        have HLT := Aside0.mk hlt
        clear hlt
        go_upto_region 8 with fail
        refine start_ (n := 13) (S := fun w' => w'.cell? ⟨g2, 1, none⟩ = some (.int .i64 (k.2 : Int)) ∧ w'.cell? ⟨gi, 1, none⟩ = some (.int .i64 (si.2 : Int))) (ds := []) #[false, false, false, false, false, false, false, false, false, false, false, false, false] (by kernel_rfl) rfl rfl ⟨hck, hci⟩ (fun hHeld => ?_)
        refine pure_ (i := 0) (N := some 29) (v := ?_) (a' := ?_) #[true, false, false, false, false, false, false, false, false, false, false, false, false] rfl rfl (by kernel_rfl) (fun _ _ _ h => h) (Or.inl ⟨by rfl, ?_⟩) ?_ ?_
        rotate_left
        · intro w'
          go_simp
          with_reducible rfl
        rotate_left
        · simp only [Act.put, List.setIfInBounds_toArray, List.set_cons_zero, List.set_cons_succ, i64_w, i32_w]
          rfl
        refine pure_ (i := 1) (N := some 30) (v := ?_) (a' := ?_) #[true, true, false, false, false, false, false, false, false, false, false, false, false] rfl rfl (by kernel_rfl) (fun _ _ _ h => h) (Or.inl ⟨by rfl, ?_⟩) ?_ ?_
        rotate_left
        · intro w'
          go_simp
          with_reducible rfl
        rotate_left
        · simp only [Act.put, List.setIfInBounds_toArray, List.set_cons_zero, List.set_cons_succ, i64_w, i32_w]
          rfl
        refine pure_ (i := 2) (N := some 31) (v := ?_) (a' := ?_) #[true, true, true, false, false, false, false, false, false, false, false, false, false] rfl rfl (by kernel_rfl) (fun _ _ _ h => h) (Or.inl ⟨by rfl, ?_⟩) ?_ ?_
        rotate_left
        · intro w'
          go_simp
          with_reducible rfl
        rotate_left
        · simp only [Act.put, List.setIfInBounds_toArray, List.set_cons_zero, List.set_cons_succ, i64_w, i32_w]
          rfl
        refine pure_ (i := 3) (N := some 32) (v := ?_) (a' := ?_) #[true, true, true, true, false, false, false, false, false, false, false, false, false] rfl rfl (by kernel_rfl) (fun _ _ _ h => h) (Or.inl ⟨by rfl, ?_⟩) ?_ ?_
        rotate_left
        · intro w'
          go_simp
          with_reducible rfl
        rotate_left
        · simp only [Act.put, List.setIfInBounds_toArray, List.set_cons_zero, List.set_cons_succ, i64_w, i32_w]
          rfl
        refine pure_ (i := 4) (N := some 33) (v := ?_) (a' := ?_) #[true, true, true, true, true, false, false, false, false, false, false, false, false] rfl rfl (by kernel_rfl) (fun _ _ _ h => h) (Or.inl ⟨by rfl, ?_⟩) ?_ ?_
        rotate_left
        · intro w'
          go_simp
          with_reducible rfl
        rotate_left
        · simp only [Act.put, List.setIfInBounds_toArray, List.set_cons_zero, List.set_cons_succ, i64_w, i32_w]
          rfl
        refine pure_ (i := 6) (N := some 35) (v := ?_) (a' := ?_) #[true, true, true, true, true, false, true, false, false, false, false, false, false] rfl rfl (by kernel_rfl) (fun _ _ _ h => h) (Or.inl ⟨by rfl, ?_⟩) ?_ ?_
        rotate_left
        · intro w'
          go_simp
          with_reducible rfl
        rotate_left
        · simp only [Act.put, List.setIfInBounds_toArray, List.set_cons_zero, List.set_cons_succ, i64_w, i32_w]
          rfl
        refine pure_ (i := 7) (N := some 36) (v := ?_) (a' := ?_) #[true, true, true, true, true, false, true, true, false, false, false, false, false] rfl rfl (by kernel_rfl) (fun _ _ _ h => h) (Or.inl ⟨by rfl, ?_⟩) ?_ ?_
        rotate_left
        · intro w'
          go_simp
          with_reducible rfl
        rotate_left
        · simp only [Act.put, List.setIfInBounds_toArray, List.set_cons_zero, List.set_cons_succ, i64_w, i32_w]
          rfl
        refine pure_ (i := 8) (N := some 37) (v := ?_) (a' := ?_) #[true, true, true, true, true, false, true, true, true, false, false, false, false] rfl rfl (by kernel_rfl) (fun _ _ _ h => h) (Or.inl ⟨by rfl, ?_⟩) ?_ ?_
        rotate_left
        · intro w'
          go_simp
          with_reducible rfl
        rotate_left
        · simp only [Act.put, List.setIfInBounds_toArray, List.set_cons_zero, List.set_cons_succ, i64_w, i32_w]
          rfl
        refine pure_ (i := 9) (N := some 38) (v := ?_) (a' := ?_) #[true, true, true, true, true, false, true, true, true, true, false, false, false] rfl rfl (by kernel_rfl) (fun _ _ _ h => h) (Or.inl ⟨by rfl, ?_⟩) ?_ ?_
        rotate_left
        · intro w'
          go_simp
          with_reducible rfl
        rotate_left
        · simp only [Act.put, List.setIfInBounds_toArray, List.set_cons_zero, List.set_cons_succ, i64_w, i32_w]
          rfl
        refine pure_ (i := 10) (N := some 39) (v := ?_) (a' := ?_) #[true, true, true, true, true, false, true, true, true, true, true, false, false] rfl rfl (by kernel_rfl) (fun _ _ _ h => h) (Or.inl ⟨by rfl, ?_⟩) ?_ ?_
        rotate_left
        · intro w'
          go_simp
          with_reducible rfl
        rotate_left
        · simp only [Act.put, List.setIfInBounds_toArray, List.set_cons_zero, List.set_cons_succ, i64_w, i32_w]
          rfl
        refine take_ (i := 5) (N := some 34) (v := ?_) (a' := ?_) #[true, true, true, true, true, true, true, true, true, true, true, false, false] rfl rfl (by kernel_rfl) (fun _ _ _ h => h) (Or.inl ⟨by rfl, ?_⟩) hHeld ?_ ?_
        rotate_left
        · rintro w' ⟨s0, s1⟩
          go_simp
          with_reducible rfl
        rotate_left
        · simp only [Act.put, List.setIfInBounds_toArray, List.set_cons_zero, List.set_cons_succ, i64_w, i32_w]
          rfl
        refine take_ (i := 11) (N := some 40) (v := ?_) (a' := ?_) #[true, true, true, true, true, true, true, true, true, true, true, true, false] rfl rfl (by kernel_rfl) (fun _ _ _ h => h) (Or.inl ⟨by rfl, ?_⟩) hHeld ?_ ?_
        rotate_left
        · rintro w' ⟨s0, s1⟩
          go_simp
          with_reducible rfl
        rotate_left
        · simp only [Act.put, List.setIfInBounds_toArray, List.set_cons_zero, List.set_cons_succ, i64_w, i32_w]
          rfl
        refine pure_ (i := 12) (N := some 41) (v := ?_) (a' := ?_) #[true, true, true, true, true, true, true, true, true, true, true, true, true] rfl rfl (by kernel_rfl) (fun _ _ _ h => h) (Or.inl ⟨by rfl, ?_⟩) ?_ ?_
        rotate_left
        · intro w'
          go_simp
          with_reducible rfl
        rotate_left
        · simp only [Act.put, List.setIfInBounds_toArray, List.set_cons_zero, List.set_cons_succ, i64_w, i32_w]
          rfl
        refine done_ (by kernel_rfl) ?_
        go_wp2_with fail
        go_roundg (gk - 1)
        case measure => have := HG.out; omega
        case rel => exact ⟨1, gi, si, rfl, rfl, by omega, ⟨by have := HG.out; omega⟩, ⟨fun h => by omega, fun _ => by have := HS.out.1 (by decide); subst this; unfold pick2; rw [if_neg HLT.out], fun h => by omega⟩, HP, ⟨HB.out.drew⟩⟩
    · have hP := HP.out.below HB.out
      obtain ⟨_, _, hgi, _, _⟩ := hP.cell
      obtain ⟨_, _, hgk, _, _⟩ := (Q3.out.below HB.out).cell
      have hci : wr.cell? ⟨gi, 1, none⟩ = some (.int .i64 (si.2 : Int)) := (blk_cell hgi 1).trans rfl
      have hck : wr.cell? ⟨g3, 1, none⟩ = some (.int .i64 (m.2 : Int)) := (blk_cell hgk 1).trans rfl
      have hbl := (HB.out.block gl (heap_ltP BL.out)).trans BL.out
      have hc0 : wr.cell? ⟨gl, 1, none⟩ = some (.pointer (some ⟨g3, 0, none⟩)) := (blk_cell hbl 1).trans rfl
      have hc1 : wr.cell? ((⟨gl, 0, none⟩ : Addr).add 1) = some (.pointer (some ⟨g3, 0, none⟩)) := hc0
      clear hP hgi hgk hbl
      by_cases hlt : m.2 < si.2
      · have d1 : decide (m.2 < si.2) = true := decide_eq_true hlt
        have HLT := Aside0.mk hlt
        clear hlt
        go_upto_region 8 with fail
        refine start_ (n := 13) (S := fun w' => w'.cell? ⟨g3, 1, none⟩ = some (.int .i64 (m.2 : Int)) ∧ w'.cell? ⟨gi, 1, none⟩ = some (.int .i64 (si.2 : Int))) (ds := []) #[false, false, false, false, false, false, false, false, false, false, false, false, false] (by kernel_rfl) rfl rfl ⟨hck, hci⟩ (fun hHeld => ?_)
        refine pure_ (i := 0) (N := some 29) (v := ?_) (a' := ?_) #[true, false, false, false, false, false, false, false, false, false, false, false, false] rfl rfl (by kernel_rfl) (fun _ _ _ h => h) (Or.inl ⟨by rfl, ?_⟩) ?_ ?_
        rotate_left
        · intro w'
          go_simp
          with_reducible rfl
        rotate_left
        · simp only [Act.put, List.setIfInBounds_toArray, List.set_cons_zero, List.set_cons_succ, i64_w, i32_w]
          rfl
        refine pure_ (i := 1) (N := some 30) (v := ?_) (a' := ?_) #[true, true, false, false, false, false, false, false, false, false, false, false, false] rfl rfl (by kernel_rfl) (fun _ _ _ h => h) (Or.inl ⟨by rfl, ?_⟩) ?_ ?_
        rotate_left
        · intro w'
          go_simp
          with_reducible rfl
        rotate_left
        · simp only [Act.put, List.setIfInBounds_toArray, List.set_cons_zero, List.set_cons_succ, i64_w, i32_w]
          rfl
        refine pure_ (i := 2) (N := some 31) (v := ?_) (a' := ?_) #[true, true, true, false, false, false, false, false, false, false, false, false, false] rfl rfl (by kernel_rfl) (fun _ _ _ h => h) (Or.inl ⟨by rfl, ?_⟩) ?_ ?_
        rotate_left
        · intro w'
          go_simp
          with_reducible rfl
        rotate_left
        · simp only [Act.put, List.setIfInBounds_toArray, List.set_cons_zero, List.set_cons_succ, i64_w, i32_w]
          rfl
        refine pure_ (i := 3) (N := some 32) (v := ?_) (a' := ?_) #[true, true, true, true, false, false, false, false, false, false, false, false, false] rfl rfl (by kernel_rfl) (fun _ _ _ h => h) (Or.inl ⟨by rfl, ?_⟩) ?_ ?_
        rotate_left
        · intro w'
          go_simp
          with_reducible rfl
        rotate_left
        · simp only [Act.put, List.setIfInBounds_toArray, List.set_cons_zero, List.set_cons_succ, i64_w, i32_w]
          rfl
        refine pure_ (i := 4) (N := some 33) (v := ?_) (a' := ?_) #[true, true, true, true, true, false, false, false, false, false, false, false, false] rfl rfl (by kernel_rfl) (fun _ _ _ h => h) (Or.inl ⟨by rfl, ?_⟩) ?_ ?_
        rotate_left
        · intro w'
          go_simp
          with_reducible rfl
        rotate_left
        · simp only [Act.put, List.setIfInBounds_toArray, List.set_cons_zero, List.set_cons_succ, i64_w, i32_w]
          rfl
        refine pure_ (i := 6) (N := some 35) (v := ?_) (a' := ?_) #[true, true, true, true, true, false, true, false, false, false, false, false, false] rfl rfl (by kernel_rfl) (fun _ _ _ h => h) (Or.inl ⟨by rfl, ?_⟩) ?_ ?_
        rotate_left
        · intro w'
          go_simp
          with_reducible rfl
        rotate_left
        · simp only [Act.put, List.setIfInBounds_toArray, List.set_cons_zero, List.set_cons_succ, i64_w, i32_w]
          rfl
        refine pure_ (i := 7) (N := some 36) (v := ?_) (a' := ?_) #[true, true, true, true, true, false, true, true, false, false, false, false, false] rfl rfl (by kernel_rfl) (fun _ _ _ h => h) (Or.inl ⟨by rfl, ?_⟩) ?_ ?_
        rotate_left
        · intro w'
          go_simp
          with_reducible rfl
        rotate_left
        · simp only [Act.put, List.setIfInBounds_toArray, List.set_cons_zero, List.set_cons_succ, i64_w, i32_w]
          rfl
        refine pure_ (i := 8) (N := some 37) (v := ?_) (a' := ?_) #[true, true, true, true, true, false, true, true, true, false, false, false, false] rfl rfl (by kernel_rfl) (fun _ _ _ h => h) (Or.inl ⟨by rfl, ?_⟩) ?_ ?_
        rotate_left
        · intro w'
          go_simp
          with_reducible rfl
        rotate_left
        · simp only [Act.put, List.setIfInBounds_toArray, List.set_cons_zero, List.set_cons_succ, i64_w, i32_w]
          rfl
        refine pure_ (i := 9) (N := some 38) (v := ?_) (a' := ?_) #[true, true, true, true, true, false, true, true, true, true, false, false, false] rfl rfl (by kernel_rfl) (fun _ _ _ h => h) (Or.inl ⟨by rfl, ?_⟩) ?_ ?_
        rotate_left
        · intro w'
          go_simp
          with_reducible rfl
        rotate_left
        · simp only [Act.put, List.setIfInBounds_toArray, List.set_cons_zero, List.set_cons_succ, i64_w, i32_w]
          rfl
        refine pure_ (i := 10) (N := some 39) (v := ?_) (a' := ?_) #[true, true, true, true, true, false, true, true, true, true, true, false, false] rfl rfl (by kernel_rfl) (fun _ _ _ h => h) (Or.inl ⟨by rfl, ?_⟩) ?_ ?_
        rotate_left
        · intro w'
          go_simp
          with_reducible rfl
        rotate_left
        · simp only [Act.put, List.setIfInBounds_toArray, List.set_cons_zero, List.set_cons_succ, i64_w, i32_w]
          rfl
        refine take_ (i := 5) (N := some 34) (v := ?_) (a' := ?_) #[true, true, true, true, true, true, true, true, true, true, true, false, false] rfl rfl (by kernel_rfl) (fun _ _ _ h => h) (Or.inl ⟨by rfl, ?_⟩) hHeld ?_ ?_
        rotate_left
        · rintro w' ⟨s0, s1⟩
          go_simp
          with_reducible rfl
        rotate_left
        · simp only [Act.put, List.setIfInBounds_toArray, List.set_cons_zero, List.set_cons_succ, i64_w, i32_w]
          rfl
        refine take_ (i := 11) (N := some 40) (v := ?_) (a' := ?_) #[true, true, true, true, true, true, true, true, true, true, true, true, false] rfl rfl (by kernel_rfl) (fun _ _ _ h => h) (Or.inl ⟨by rfl, ?_⟩) hHeld ?_ ?_
        rotate_left
        · rintro w' ⟨s0, s1⟩
          go_simp
          with_reducible rfl
        rotate_left
        · simp only [Act.put, List.setIfInBounds_toArray, List.set_cons_zero, List.set_cons_succ, i64_w, i32_w]
          rfl
        refine pure_ (i := 12) (N := some 41) (v := ?_) (a' := ?_) #[true, true, true, true, true, true, true, true, true, true, true, true, true] rfl rfl (by kernel_rfl) (fun _ _ _ h => h) (Or.inl ⟨by rfl, ?_⟩) ?_ ?_
        rotate_left
        · intro w'
          go_simp
          with_reducible rfl
        rotate_left
        · simp only [Act.put, List.setIfInBounds_toArray, List.set_cons_zero, List.set_cons_succ, i64_w, i32_w]
          rfl
        refine done_ (by kernel_rfl) ?_
        go_wp2_with fail
        go_roundg (gk - 1)
        case measure => have := HG.out; omega
        case rel => exact ⟨2, g3, m, rfl, rfl, by omega, ⟨by have := HG.out; omega⟩, ⟨fun h => by omega, fun h => by omega, fun _ => by have := HS.out.2.1 (by decide); rw [← this]; unfold pick2; rw [if_pos HLT.out]⟩, Q3, ⟨HB.out.drew⟩⟩
      · have d1 : decide (m.2 < si.2) = false := decide_eq_false hlt
        have HLT := Aside0.mk hlt
        clear hlt
        go_upto_region 8 with fail
        refine start_ (n := 13) (S := fun w' => w'.cell? ⟨g3, 1, none⟩ = some (.int .i64 (m.2 : Int)) ∧ w'.cell? ⟨gi, 1, none⟩ = some (.int .i64 (si.2 : Int))) (ds := []) #[false, false, false, false, false, false, false, false, false, false, false, false, false] (by kernel_rfl) rfl rfl ⟨hck, hci⟩ (fun hHeld => ?_)
        refine pure_ (i := 0) (N := some 29) (v := ?_) (a' := ?_) #[true, false, false, false, false, false, false, false, false, false, false, false, false] rfl rfl (by kernel_rfl) (fun _ _ _ h => h) (Or.inl ⟨by rfl, ?_⟩) ?_ ?_
        rotate_left
        · intro w'
          go_simp
          with_reducible rfl
        rotate_left
        · simp only [Act.put, List.setIfInBounds_toArray, List.set_cons_zero, List.set_cons_succ, i64_w, i32_w]
          rfl
        refine pure_ (i := 1) (N := some 30) (v := ?_) (a' := ?_) #[true, true, false, false, false, false, false, false, false, false, false, false, false] rfl rfl (by kernel_rfl) (fun _ _ _ h => h) (Or.inl ⟨by rfl, ?_⟩) ?_ ?_
        rotate_left
        · intro w'
          go_simp
          with_reducible rfl
        rotate_left
        · simp only [Act.put, List.setIfInBounds_toArray, List.set_cons_zero, List.set_cons_succ, i64_w, i32_w]
          rfl
        refine pure_ (i := 2) (N := some 31) (v := ?_) (a' := ?_) #[true, true, true, false, false, false, false, false, false, false, false, false, false] rfl rfl (by kernel_rfl) (fun _ _ _ h => h) (Or.inl ⟨by rfl, ?_⟩) ?_ ?_
        rotate_left
        · intro w'
          go_simp
          with_reducible rfl
        rotate_left
        · simp only [Act.put, List.setIfInBounds_toArray, List.set_cons_zero, List.set_cons_succ, i64_w, i32_w]
          rfl
        refine pure_ (i := 3) (N := some 32) (v := ?_) (a' := ?_) #[true, true, true, true, false, false, false, false, false, false, false, false, false] rfl rfl (by kernel_rfl) (fun _ _ _ h => h) (Or.inl ⟨by rfl, ?_⟩) ?_ ?_
        rotate_left
        · intro w'
          go_simp
          with_reducible rfl
        rotate_left
        · simp only [Act.put, List.setIfInBounds_toArray, List.set_cons_zero, List.set_cons_succ, i64_w, i32_w]
          rfl
        refine pure_ (i := 4) (N := some 33) (v := ?_) (a' := ?_) #[true, true, true, true, true, false, false, false, false, false, false, false, false] rfl rfl (by kernel_rfl) (fun _ _ _ h => h) (Or.inl ⟨by rfl, ?_⟩) ?_ ?_
        rotate_left
        · intro w'
          go_simp
          with_reducible rfl
        rotate_left
        · simp only [Act.put, List.setIfInBounds_toArray, List.set_cons_zero, List.set_cons_succ, i64_w, i32_w]
          rfl
        refine pure_ (i := 6) (N := some 35) (v := ?_) (a' := ?_) #[true, true, true, true, true, false, true, false, false, false, false, false, false] rfl rfl (by kernel_rfl) (fun _ _ _ h => h) (Or.inl ⟨by rfl, ?_⟩) ?_ ?_
        rotate_left
        · intro w'
          go_simp
          with_reducible rfl
        rotate_left
        · simp only [Act.put, List.setIfInBounds_toArray, List.set_cons_zero, List.set_cons_succ, i64_w, i32_w]
          rfl
        refine pure_ (i := 7) (N := some 36) (v := ?_) (a' := ?_) #[true, true, true, true, true, false, true, true, false, false, false, false, false] rfl rfl (by kernel_rfl) (fun _ _ _ h => h) (Or.inl ⟨by rfl, ?_⟩) ?_ ?_
        rotate_left
        · intro w'
          go_simp
          with_reducible rfl
        rotate_left
        · simp only [Act.put, List.setIfInBounds_toArray, List.set_cons_zero, List.set_cons_succ, i64_w, i32_w]
          rfl
        refine pure_ (i := 8) (N := some 37) (v := ?_) (a' := ?_) #[true, true, true, true, true, false, true, true, true, false, false, false, false] rfl rfl (by kernel_rfl) (fun _ _ _ h => h) (Or.inl ⟨by rfl, ?_⟩) ?_ ?_
        rotate_left
        · intro w'
          go_simp
          with_reducible rfl
        rotate_left
        · simp only [Act.put, List.setIfInBounds_toArray, List.set_cons_zero, List.set_cons_succ, i64_w, i32_w]
          rfl
        refine pure_ (i := 9) (N := some 38) (v := ?_) (a' := ?_) #[true, true, true, true, true, false, true, true, true, true, false, false, false] rfl rfl (by kernel_rfl) (fun _ _ _ h => h) (Or.inl ⟨by rfl, ?_⟩) ?_ ?_
        rotate_left
        · intro w'
          go_simp
          with_reducible rfl
        rotate_left
        · simp only [Act.put, List.setIfInBounds_toArray, List.set_cons_zero, List.set_cons_succ, i64_w, i32_w]
          rfl
        refine pure_ (i := 10) (N := some 39) (v := ?_) (a' := ?_) #[true, true, true, true, true, false, true, true, true, true, true, false, false] rfl rfl (by kernel_rfl) (fun _ _ _ h => h) (Or.inl ⟨by rfl, ?_⟩) ?_ ?_
        rotate_left
        · intro w'
          go_simp
          with_reducible rfl
        rotate_left
        · simp only [Act.put, List.setIfInBounds_toArray, List.set_cons_zero, List.set_cons_succ, i64_w, i32_w]
          rfl
        refine take_ (i := 5) (N := some 34) (v := ?_) (a' := ?_) #[true, true, true, true, true, true, true, true, true, true, true, false, false] rfl rfl (by kernel_rfl) (fun _ _ _ h => h) (Or.inl ⟨by rfl, ?_⟩) hHeld ?_ ?_
        rotate_left
        · rintro w' ⟨s0, s1⟩
          go_simp
          with_reducible rfl
        rotate_left
        · simp only [Act.put, List.setIfInBounds_toArray, List.set_cons_zero, List.set_cons_succ, i64_w, i32_w]
          rfl
        refine take_ (i := 11) (N := some 40) (v := ?_) (a' := ?_) #[true, true, true, true, true, true, true, true, true, true, true, true, false] rfl rfl (by kernel_rfl) (fun _ _ _ h => h) (Or.inl ⟨by rfl, ?_⟩) hHeld ?_ ?_
        rotate_left
        · rintro w' ⟨s0, s1⟩
          go_simp
          with_reducible rfl
        rotate_left
        · simp only [Act.put, List.setIfInBounds_toArray, List.set_cons_zero, List.set_cons_succ, i64_w, i32_w]
          rfl
        refine pure_ (i := 12) (N := some 41) (v := ?_) (a' := ?_) #[true, true, true, true, true, true, true, true, true, true, true, true, true] rfl rfl (by kernel_rfl) (fun _ _ _ h => h) (Or.inl ⟨by rfl, ?_⟩) ?_ ?_
        rotate_left
        · intro w'
          go_simp
          with_reducible rfl
        rotate_left
        · simp only [Act.put, List.setIfInBounds_toArray, List.set_cons_zero, List.set_cons_succ, i64_w, i32_w]
          rfl
        refine done_ (by kernel_rfl) ?_
        go_wp2_with fail
        go_roundg (gk - 1)
        case measure => have := HG.out; omega
        case rel => exact ⟨2, gi, si, rfl, rfl, by omega, ⟨by have := HG.out; omega⟩, ⟨fun h => by omega, fun h => by omega, fun _ => by have := HS.out.2.1 (by decide); rw [← this]; unfold pick2; rw [if_neg HLT.out]⟩, HP, ⟨HB.out.drew⟩⟩
    · have hsi := HS.out.2.2 (by decide)
      obtain ⟨v, hg, hge, ho⟩ := HP.out.below HB.out
      have hcz : wr.cell? ⟨gi, 0, none⟩ = some v := (blk_cell hg 0).trans rfl
      have HO := Aside0.mk ho
      have HB6 := Aside0.mk (below_then HB5.out HB5.out.size HB.out)
      clear ho hg
      go_wp2_with fail
      go_ret2
      have h1 := HE1.out
      have h2 := HE2.out
      subst h2
      rw [← hsi] at h1
      subst h1
      exact ⟨v, rfl, HO.out, HB6.out⟩

-- PART
end Go.Proofs.Ytcjijhjdkgjgeaa.P
