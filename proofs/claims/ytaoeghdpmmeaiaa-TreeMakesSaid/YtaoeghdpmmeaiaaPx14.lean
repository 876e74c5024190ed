-- Written by a program of this session out of the translation. Lean checks it.
import Derived.Test.YtaoeghdpmmeaiaaPx0
import Derived.Test.YtaoeghdpmmeaiaaPx13
namespace Go.Proofs.Ytaoeghdpmmeaiaa.P
open Go.RowKit Go.Proofs.YtaoeghdpmmeaiaaW.PrintWords Go.Proofs.YtaoeghdpmmeaiaaW.PrintLast Go.Proofs.YtaoeghdpmmeaiaaW.PrintMore
attribute [local go_sem] max2_int min2_int max_two min_two max_three min_three max_four min_four   -- for this text's walks alone
set_option linter.unusedVariables false
set_option linter.unusedSimpArgs false

/-! ### wherryref01_lengths: function 25 -/
mutual
def wherryref01_lengths.l0 : Nat → List Int → List Int → List (S62) → Int → Option (List Int)
  | 0, _, _, _, _ => none
  | k + 1, x0, x3, x4, x5 => if x5 < (x0.length : Int) then (if 0 ≤ x5 then (if (rd x0 x5) > 0 then (if x4.length < 4398046511104 then (wherryref01_lengths.l0 k x0 x3 (x4 ++ [(⟨rd x0 x5, (([x5] : List Int))⟩ : S62)]) (wrap64 (x5 + 1))) else (none)) else (wherryref01_lengths.l0 k x0 x3 x4 (wrap64 (x5 + 1)))) else (none)) else (if (x4.length : Int) = 1 then (if 0 < (x4.length : Int) then (if 0 < (((rd_T62 x4 0).f1).length : Int) then (if 0 ≤ (rd ((rd_T62 x4 0).f1) 0) then (if (rd ((rd_T62 x4 0).f1) 0) < (x3.length : Int) then (wherryref01_lengths.j1 k (x3.set ((rd ((rd_T62 x4 0).f1) 0) : Int).toNat 1) x4) else (none)) else (none)) else (none)) else (none)) else (wherryref01_lengths.j1 k x3 x4))
def wherryref01_lengths.j1 : Nat → List Int → List (S62) → Option (List Int)
  | 0, _, _ => none
  | k + 1, x3, x4 => wherryref01_lengths.l1 k x3 x4
def wherryref01_lengths.l1 : Nat → List Int → List (S62) → Option (List Int)
  | 0, _, _ => none
  | k + 1, x3, x4 => if (x4.length : Int) > 1 then ((wherryref01_least.f k x4 (-1)).bind fun t123 => ((wherryref01_least.f k x4 t123).bind fun t124 => (if 0 ≤ t123 then (if t123 < (x4.length : Int) then (if 0 ≤ t124 then (if t124 < (x4.length : Int) then (if ([] : List Int).length + ((rd_T62 x4 t123).f1).length < 17592186044416 then ((some (([] : List Int) ++ ((rd_T62 x4 t123).f1) : List Int)).bind fun y129 => (if y129.length + ((rd_T62 x4 t124).f1).length < 17592186044416 then (wherryref01_lengths.l2 k x3 x4 t123 t124 0 (wrap64 (((rd_T62 x4 t123).f0) + ((rd_T62 x4 t124).f0))) (y129 ++ ((rd_T62 x4 t124).f1))) else (none))) else (none)) else (none)) else (none)) else (none)) else (none)))) else (some x3)
def wherryref01_lengths.l2 : Nat → List Int → List (S62) → Int → Int → Int → Int → List Int → Option (List Int)
  | 0, _, _, _, _, _, _, _ => none
  | k + 1, x3, x4, x6, x7, x9, x128000, x128001 => if x9 < (x128001.length : Int) then (if 0 ≤ x9 then (if 0 ≤ (rd x128001 x9) then (if (rd x128001 x9) < (x3.length : Int) then (wherryref01_lengths.l2 k (x3.set ((rd x128001 x9) : Int).toNat (wrap64 ((rd x3 (rd x128001 x9)) + 1))) x4 x6 x7 (wrap64 (x9 + 1)) x128000 x128001) else (none)) else (none)) else (none)) else (wherryref01_lengths.l3 k x3 x4 x6 x7 ([] : List (S62)) 0 x128000 x128001)
def wherryref01_lengths.l3 : Nat → List Int → List (S62) → Int → Int → List (S62) → Int → Int → List Int → Option (List Int)
  | 0, _, _, _, _, _, _, _, _ => none
  | k + 1, x3, x4, x6, x7, x10, x11, x128000, x128001 => if x11 < (x4.length : Int) then (if x11 = x6 then (wherryref01_lengths.l3 k x3 x4 x6 x7 x10 (wrap64 (x11 + 1)) x128000 x128001) else (if x11 = x7 then (wherryref01_lengths.l3 k x3 x4 x6 x7 x10 (wrap64 (x11 + 1)) x128000 x128001) else (if 0 ≤ x11 then (if x10.length < 4398046511104 then (wherryref01_lengths.l3 k x3 x4 x6 x7 (x10 ++ [(⟨(rd_T62 x4 x11).f0, (rd_T62 x4 x11).f1⟩ : S62)]) (wrap64 (x11 + 1)) x128000 x128001) else (none)) else (none)))) else (if x10.length < 4398046511104 then (wherryref01_lengths.l1 k x3 (x10 ++ [(⟨x128000, x128001⟩ : S62)])) else (none))
end
def wherryref01_lengths.f (k : Nat) (l0 : List Int) : Option (List Int) := if 0 ≤ (l0.length : Int) then (if ((l0.length : Int) : Int).toNat ≤ 35184372088832 then (wherryref01_lengths.l0 k l0 (List.replicate ((l0.length : Int) : Int).toNat 0) ([] : List (S62)) 0) else (none)) else (none)
theorem wherryref01_lengths.mono_l : ∀ k, (∀ y0 y1 y2 y3, LeO (wherryref01_lengths.l0 k y0 y1 y2 y3) (wherryref01_lengths.l0 (k + 1) y0 y1 y2 y3)) ∧ (∀ y0 y1, LeO (wherryref01_lengths.j1 k y0 y1) (wherryref01_lengths.j1 (k + 1) y0 y1)) ∧ (∀ y0 y1, LeO (wherryref01_lengths.l1 k y0 y1) (wherryref01_lengths.l1 (k + 1) y0 y1)) ∧ (∀ y0 y1 y2 y3 y4 y5 y6, LeO (wherryref01_lengths.l2 k y0 y1 y2 y3 y4 y5 y6) (wherryref01_lengths.l2 (k + 1) y0 y1 y2 y3 y4 y5 y6)) ∧ (∀ y0 y1 y2 y3 y4 y5 y6 y7, LeO (wherryref01_lengths.l3 k y0 y1 y2 y3 y4 y5 y6 y7) (wherryref01_lengths.l3 (k + 1) y0 y1 y2 y3 y4 y5 y6 y7))
  | 0 => ⟨fun _ _ _ _ r h => by simp [wherryref01_lengths.l0] at h, fun _ _ r h => by simp [wherryref01_lengths.j1] at h, fun _ _ r h => by simp [wherryref01_lengths.l1] at h, fun _ _ _ _ _ _ _ r h => by simp [wherryref01_lengths.l2] at h, fun _ _ _ _ _ _ _ _ r h => by simp [wherryref01_lengths.l3] at h⟩
  | k + 1 => by
    obtain ⟨ih0, ih1, ih2, ih3, ih4⟩ := wherryref01_lengths.mono_l k
    refine ⟨?_, ?_, ?_, ?_, ?_⟩
    · intro y0 y1 y2 y3
      unfold wherryref01_lengths.l0
      repeat' first
      | (with_reducible exact ih0 _ _ _ _)
      | (with_reducible exact ih1 _ _)
      | (with_reducible exact ih2 _ _)
      | (with_reducible exact ih3 _ _ _ _ _ _ _)
      | (with_reducible exact ih4 _ _ _ _ _ _ _ _)
      | (with_reducible exact wherryref01_least.mono _ _ _)
      | (with_reducible exact LeO.refl _)
      | (with_reducible exact LeO.none _)
      | (with_reducible refine LeO.ite ?_ ?_)
      | (with_reducible refine LeO.bind ?_ (fun _ => ?_))
      | exact ih0 _ _ _ _
      | exact ih1 _ _
      | exact ih2 _ _
      | exact ih3 _ _ _ _ _ _ _
      | exact ih4 _ _ _ _ _ _ _ _
      | exact wherryref01_least.mono _ _ _
      | exact LeO.none _
      | refine LeO.ite ?_ ?_
      | refine LeO.bind ?_ (fun _ => ?_)
    · intro y0 y1
      unfold wherryref01_lengths.j1
      repeat' first
      | (with_reducible exact ih0 _ _ _ _)
      | (with_reducible exact ih1 _ _)
      | (with_reducible exact ih2 _ _)
      | (with_reducible exact ih3 _ _ _ _ _ _ _)
      | (with_reducible exact ih4 _ _ _ _ _ _ _ _)
      | (with_reducible exact wherryref01_least.mono _ _ _)
      | (with_reducible exact LeO.refl _)
      | (with_reducible exact LeO.none _)
      | (with_reducible refine LeO.ite ?_ ?_)
      | (with_reducible refine LeO.bind ?_ (fun _ => ?_))
      | exact ih0 _ _ _ _
      | exact ih1 _ _
      | exact ih2 _ _
      | exact ih3 _ _ _ _ _ _ _
      | exact ih4 _ _ _ _ _ _ _ _
      | exact wherryref01_least.mono _ _ _
      | exact LeO.none _
      | refine LeO.ite ?_ ?_
      | refine LeO.bind ?_ (fun _ => ?_)
    · intro y0 y1
      unfold wherryref01_lengths.l1
      repeat' first
      | (with_reducible exact ih0 _ _ _ _)
      | (with_reducible exact ih1 _ _)
      | (with_reducible exact ih2 _ _)
      | (with_reducible exact ih3 _ _ _ _ _ _ _)
      | (with_reducible exact ih4 _ _ _ _ _ _ _ _)
      | (with_reducible exact wherryref01_least.mono _ _ _)
      | (with_reducible exact LeO.refl _)
      | (with_reducible exact LeO.none _)
      | (with_reducible refine LeO.ite ?_ ?_)
      | (with_reducible refine LeO.bind ?_ (fun _ => ?_))
      | exact ih0 _ _ _ _
      | exact ih1 _ _
      | exact ih2 _ _
      | exact ih3 _ _ _ _ _ _ _
      | exact ih4 _ _ _ _ _ _ _ _
      | exact wherryref01_least.mono _ _ _
      | exact LeO.none _
      | refine LeO.ite ?_ ?_
      | refine LeO.bind ?_ (fun _ => ?_)
    · intro y0 y1 y2 y3 y4 y5 y6
      unfold wherryref01_lengths.l2
      repeat' first
      | (with_reducible exact ih0 _ _ _ _)
      | (with_reducible exact ih1 _ _)
      | (with_reducible exact ih2 _ _)
      | (with_reducible exact ih3 _ _ _ _ _ _ _)
      | (with_reducible exact ih4 _ _ _ _ _ _ _ _)
      | (with_reducible exact wherryref01_least.mono _ _ _)
      | (with_reducible exact LeO.refl _)
      | (with_reducible exact LeO.none _)
      | (with_reducible refine LeO.ite ?_ ?_)
      | (with_reducible refine LeO.bind ?_ (fun _ => ?_))
      | exact ih0 _ _ _ _
      | exact ih1 _ _
      | exact ih2 _ _
      | exact ih3 _ _ _ _ _ _ _
      | exact ih4 _ _ _ _ _ _ _ _
      | exact wherryref01_least.mono _ _ _
      | exact LeO.none _
      | refine LeO.ite ?_ ?_
      | refine LeO.bind ?_ (fun _ => ?_)
    · intro y0 y1 y2 y3 y4 y5 y6 y7
      unfold wherryref01_lengths.l3
      repeat' first
      | (with_reducible exact ih0 _ _ _ _)
      | (with_reducible exact ih1 _ _)
      | (with_reducible exact ih2 _ _)
      | (with_reducible exact ih3 _ _ _ _ _ _ _)
      | (with_reducible exact ih4 _ _ _ _ _ _ _ _)
      | (with_reducible exact wherryref01_least.mono _ _ _)
      | (with_reducible exact LeO.refl _)
      | (with_reducible exact LeO.none _)
      | (with_reducible refine LeO.ite ?_ ?_)
      | (with_reducible refine LeO.bind ?_ (fun _ => ?_))
      | exact ih0 _ _ _ _
      | exact ih1 _ _
      | exact ih2 _ _
      | exact ih3 _ _ _ _ _ _ _
      | exact ih4 _ _ _ _ _ _ _ _
      | exact wherryref01_least.mono _ _ _
      | exact LeO.none _
      | refine LeO.ite ?_ ?_
      | refine LeO.bind ?_ (fun _ => ?_)
theorem wherryref01_lengths.mono : ∀ a0 k, LeO (wherryref01_lengths.f k a0) (wherryref01_lengths.f (k + 1) a0) := by
  intro a0 k
  obtain ⟨ih0, ih1, ih2, ih3, ih4⟩ := wherryref01_lengths.mono_l k
  unfold wherryref01_lengths.f
  repeat' first
      | (with_reducible exact ih0 _ _ _ _)
      | (with_reducible exact ih1 _ _)
      | (with_reducible exact ih2 _ _)
      | (with_reducible exact ih3 _ _ _ _ _ _ _)
      | (with_reducible exact ih4 _ _ _ _ _ _ _ _)
      | (with_reducible exact wherryref01_least.mono _ _ _)
      | (with_reducible exact LeO.refl _)
      | (with_reducible exact LeO.none _)
      | (with_reducible refine LeO.ite ?_ ?_)
      | (with_reducible refine LeO.bind ?_ (fun _ => ?_))
      | exact ih0 _ _ _ _
      | exact ih1 _ _
      | exact ih2 _ _
      | exact ih3 _ _ _ _ _ _ _
      | exact ih4 _ _ _ _ _ _ _ _
      | exact wherryref01_least.mono _ _ _
      | exact LeO.none _
      | refine LeO.ite ?_ ?_
      | refine LeO.bind ?_ (fun _ => ?_)
def wherryref01_lengths.T13 : Bool × List (List Nat × List Nat) := (true, [([], []), ([], []), ([0, 1], [0, 1]), ([2], [2]), ([3], [3]), ([], []), ([], []), ([5, 6], [5, 6]), ([7], [7]), ([8], [8]), ([4, 9], [4, 9]), ([10], [10]), ([], []), ([12, 11, 0, 1, 2, 3, 4, 5, 6, 7, 8, 9, 10, 11, 12], [11, 12])])
def wherryref01_lengths.B13 : List Nat := [0, 0, 3, 7, 15, 0, 0, 96, 224, 480, 1023, 2047, 0, 8191]
theorem wherryref01_lengths.tab13 : rtab .any (opsOf Try.f25 13) = wherryref01_lengths.T13 := by kernel_rfl
theorem wherryref01_lengths.bits13 : waitsOk wherryref01_lengths.T13.2 wherryref01_lengths.B13 = true := by kernel_rfl
def wherryref01_lengths.T14 : Bool × List (List Nat × List Nat) := (true, [([], []), ([0], [0]), ([], []), ([], []), ([2, 3], [2, 3]), ([4], [4]), ([5], [5]), ([1, 6], [1, 6]), ([], []), ([], []), ([8, 9], [8, 9]), ([10], [10]), ([11], [11]), ([7, 12, 7], [7, 12]), ([0, 1, 2, 3, 4, 5, 6, 7, 8, 9, 10, 11, 12, 13], []), ([14, 13, 13, 0, 1, 2, 3, 4, 5, 6, 7, 8, 9, 10, 11, 12, 13], [13, 14])])
def wherryref01_lengths.B14 : List Nat := [0, 1, 0, 0, 12, 28, 60, 127, 0, 0, 768, 1792, 3840, 8191, 16383, 32767]
theorem wherryref01_lengths.tab14 : rtab .any (opsOf Try.f25 14) = wherryref01_lengths.T14 := by kernel_rfl
theorem wherryref01_lengths.bits14 : waitsOk wherryref01_lengths.T14.2 wherryref01_lengths.B14 = true := by kernel_rfl
set_option maxHeartbeats 8000000 in
set_option maxRecDepth 100000 in
theorem wherryref01_lengths.calls (k : Nat) (A0 : Option Addr) (c0 : Nat) (l0 : List Int) (r : List Int) (w : World) (hr0 : Kd.C (Kd.int .i64) w A0 l0.length l0) (hc0 : l0.length ≤ c0) (h : wherryref01_lengths.f k l0 = some r) :
    Calls Try.prog 25 #[.slice A0 l0.length c0] w fun e w' => ∃ v0_ : Value, e = .returned (v0_) ∧ Kd.R (Kd.int .i64) 3 w' w.heap.size (fun _ => True) v0_ r ∧ Below w.heap.size w w' := by
  have hu62 := Try.underlying62
  have HR0 := Aside0.mk hr0
  have HC0 := Aside0.mk hc0
  clear hr0 hc0
  have HB := Aside0.mk (Below.refl w.heap.size w)
  have H : (if 0 ≤ (l0.length : Int) then (if ((l0.length : Int) : Int).toNat ≤ 35184372088832 then (wherryref01_lengths.l0 k l0 (List.replicate ((l0.length : Int) : Int).toNat 0) ([] : List (S62)) 0) else (none)) else (none)) = some r := h
  clear h
  by_cases c2 : 0 ≤ (l0.length : Int)
  · rw [if_pos c2] at H
    have c2b0 := eq_true c2
    have c2b1 : decide (0 ≤ (l0.length : Int)) = true := decide_eq_true c2
    clear c2
    by_cases c3 : ((l0.length : Int) : Int).toNat ≤ 35184372088832
    · rw [if_pos c3] at H
      have c3b0 := eq_true c3
      have c3b1 : decide (((l0.length : Int) : Int).toNat ≤ 35184372088832) = true := decide_eq_true c3
      clear c3
      obtain ⟨y109, hy109⟩ : ∃ y_ : List Int, y_ = (List.replicate ((l0.length : Int) : Int).toNat 0) := ⟨_, rfl⟩
      replace H : (wherryref01_lengths.l0 k l0 y109 ([] : List (S62)) 0) = some r := by first | (rw [hy109]; with_reducible exact H) | (have H2_ := (Option.bind_some _ _).symm.trans H; rw [hy109]; with_reducible exact H2_) | (have H2_ := (Option.bind_some _ _).symm.trans H; with_reducible exact H2_) | with_reducible exact H | (rw [hy109]; exact H) | exact H
      have Ny109 := Aside0.mk hy109
      clear hy109
      have H' := Aside0.mk H
      clear H
      go_enter Try.func25, Try.ntmps25
      go_wp2_with (first | ((with_reducible refine gate_dst (N := 14) rfl ?_); refine Kd.R_make (Kd.int .i64) _ 3 rfl (N := 14) rfl 22 _ _ rfl (l0.length : Int) rfl rfl Try.underlying22 (.int .i64 0) 8 info3 rfl (by decide) (by omega) 0 (ok := fun _ => True) (okp := fun _ => True) rfl (fun _ hk => hk) trivial (of_decide_eq_true (by first | (with_reducible assumption) | assumption)) (Nat.le_trans (Nat.mul_le_mul_right _ (of_decide_eq_true (by first | (with_reducible assumption) | assumption) : (l0.length : Int).toNat ≤ 35184372088832)) (by omega)) (Below.refl _ _) (Nat.le_refl _) ?_; intro v110 w4 ho5 hb hg_ hnew_; clear hg_ hnew_; (first | rw [← Ny109.out] at ho5 | (simp only [Int.reduceToNat] at ho5; rw [← Ny109.out] at ho5)); have n0_ := Aside0.mk (Kd.R_lower ho5 (below_size (by repeat (first | (with_reducible first | exact HB.out | apply below_alloc | apply pw_below_drewN | apply below_drew1) | exact HB.out)))); have n1_ := Aside0.mk (below_step (by repeat (first | (with_reducible first | exact HB.out | apply below_alloc | apply pw_below_drewN | apply below_drew1) | exact HB.out)) hb); clear HB; have HO111 := n0_; have HB := n1_; clear n0_ n1_; clear hb ho5))
      go_loopg [4, 5] k (fun kq v4 v5 w' => ∃ (x4_1 : List (S62)) (x5_1 : Int), v5 = .int .i64 x5_1 ∧ Aside0 (wherryref01_lengths.l0 kq l0 y109 x4_1 x5_1 = some r) ∧ Aside0 (kq ≤ k) ∧ Aside0 (Kd.R (Kd.int .i64) 3 w' w.heap.size (fun _ => True) v110 y109) ∧ Aside0 (Kd.N k62 62 w' w.heap.size (fun k_ => some k_ ≠ (v110 : Value).ownBlock) v4 x4_1) ∧ Aside0 (Below w.heap.size w w'))
      case atStart => exact ⟨(([] : List (S62))), (0), (by first | rfl | (simp; done) | (simp [*]; done)), H', ⟨Nat.le_refl _⟩, ⟨by (with_reducible repeat (first | apply Kd.R_alloc | apply Kd.R_drewN | apply Kd.R_drew)); exact HO111.out⟩, ⟨by first | exact Kd.S_nil _ _ _ _ _ | exact Kd.N_nil _ _ _ _ _ | exact Kd.V_nil _ _ _ _ _ | exact Kd.Q_nil _ _ _ _ _ | exact Kd.R_nil _ _ _ _ _⟩, ⟨by repeat (first | (with_reducible first | exact HB.out | apply below_alloc | apply pw_below_drewN | apply below_drew1) | exact HB.out)⟩⟩
      case round =>
        clear H'
        try clear c2
        try clear c2b0
        try clear c2b1
        try clear p2
        try clear c3
        try clear c3b0
        try clear c3b1
        obtain ⟨x4_1, x5_1, rfl, HA, HK1, HO_3, HO_4, HB⟩ := hrel
        cases gk with
        | zero => exact absurd HA.out (by simp [wherryref01_lengths.l0])
        | succ k1 =>
          have H := HA.out
          clear HA
          simp only [wherryref01_lengths.l0] at H
          by_cases c6 : x5_1 < (l0.length : Int)
          · rw [if_pos c6] at H
            have c6b0 : decide (x5_1 < (l0.length : Int)) = true := decide_eq_true c6
            clear c6
            by_cases c7 : 0 ≤ x5_1
            · rw [if_pos c7] at H
              have c7b0 : decide (0 ≤ x5_1) = true := decide_eq_true c7
              clear c7
              by_cases c8 : (rd l0 x5_1) > 0
              · rw [if_pos c8] at H
                have c8b0 : decide (0 < (rd l0 x5_1)) = true := decide_eq_true c8
                clear c8
                obtain ⟨y114, hy114⟩ : ∃ y_ : List Int, y_ = (([x5_1] : List Int)) := ⟨_, rfl⟩
                replace H : (if x4_1.length < 4398046511104 then (wherryref01_lengths.l0 k1 l0 y109 (x4_1 ++ [(⟨rd l0 x5_1, y114⟩ : S62)]) (wrap64 (x5_1 + 1))) else (none)) = some r := by first | (rw [hy114]; with_reducible exact H) | (have H2_ := (Option.bind_some _ _).symm.trans H; rw [hy114]; with_reducible exact H2_) | (have H2_ := (Option.bind_some _ _).symm.trans H; with_reducible exact H2_) | with_reducible exact H | (rw [hy114]; exact H) | exact H
                have Ny114 := Aside0.mk hy114
                clear hy114
                by_cases c9 : x4_1.length < 4398046511104
                · rw [if_pos c9] at H
                  have LMc9 := Aside0.mk c9
                  clear c9
                  obtain ⟨y117, hy117⟩ : ∃ y_ : List (S62), y_ = (x4_1 ++ [(⟨rd l0 x5_1, y114⟩ : S62)]) := ⟨_, rfl⟩
                  replace H : (wherryref01_lengths.l0 k1 l0 y109 y117 (wrap64 (x5_1 + 1))) = some r := by first | (rw [hy117]; with_reducible exact H) | (have H2_ := (Option.bind_some _ _).symm.trans H; rw [hy117]; with_reducible exact H2_) | (have H2_ := (Option.bind_some _ _).symm.trans H; with_reducible exact H2_) | with_reducible exact H | (rw [hy117]; exact H) | exact H
                  have Ny117 := Aside0.mk hy117
                  clear hy117
                  have H' := Aside0.mk H
                  clear H
                  have p112 : 0 ≤ (x5_1 : Int) := of_decide_eq_true (by first | (with_reducible assumption) | assumption)
                  have q112 : x5_1 < (l0.length : Int) := of_decide_eq_true (by first | (with_reducible assumption) | assumption)
                  obtain ⟨ad112, e112, hx112_0⟩ := Kd.at_int HR0.out x5_1 p112 q112
                  cases e112
                  replace hx112_0 := (HB.out.cell (World.block_lt_of_cell? w _ hx112_0)).trans hx112_0
                  replace p112 := eq_true p112
                  replace q112 := eq_true q112
                  have p113 : 0 ≤ (x5_1 : Int) := of_decide_eq_true (by first | (with_reducible assumption) | assumption)
                  have q113 : x5_1 < (l0.length : Int) := of_decide_eq_true (by first | (with_reducible assumption) | assumption)
                  obtain ⟨ad113, e113, hx113_0⟩ := Kd.at_int HR0.out x5_1 p113 q113
                  obtain rfl : ad112 = ad113 := (by injection e113)
                  replace hx113_0 := (HB.out.cell (World.block_lt_of_cell? w _ hx113_0)).trans hx113_0
                  replace p113 := eq_true p113
                  replace q113 := eq_true q113
                  go_wp2_with (first | ((with_reducible refine gate_dst (N := 32) rfl ?_); refine Kd.R_lit (Kd.int .i64) _ 3 ?hg (N := 32) ?hd (xs := ([x5_1] : List Int)) (inner := [.int .i64 x5_1]) (ok := fun _ => True) (okp := fun _ => True) ?hr ?hp (fun _ hk => hk) trivial (Below.refl _ _) (Nat.le_refl _) (by simp) ?_; (case hd => rfl); (case hg => rfl); (case hr => first | (go_simp; done) | (go_simp; rfl)); (case hp => exact (Reps.one (show Kd.M (Kd.int .i64) _ _ _ x5_1 [.int .i64 x5_1] from rfl) (Reps.none _ _))); intro v115 w10 ho11 hb hg_ hnew_; clear hg_ hnew_; (first | rw [← Ny114.out] at ho11 | (simp only [Int.reduceToNat] at ho11; rw [← Ny114.out] at ho11)); have n0_ := Aside0.mk (Kd.R_elder' (by (with_reducible repeat (first | apply Kd.R_alloc | apply Kd.R_drewN | apply Kd.R_drew)); exact HO_3.out) (Kd.R_base ho11) hb); have n1_ := Aside0.mk (Kd.N_elder' (by (with_reducible repeat (first | apply Kd.N_alloc | apply Kd.N_drewN | apply Kd.N_drew)); exact HO_4.out) (Kd.R_base ho11) hb); have n2_ := Aside0.mk (Kd.R_lower (Kd.R_new' ho11 (Kd.R_lt (by (with_reducible repeat (first | apply Kd.R_alloc | apply Kd.R_drewN | apply Kd.R_drew)); exact HO_3.out))) (below_size (by repeat (first | (with_reducible first | exact HB.out | apply below_alloc | apply pw_below_drewN | apply below_drew1) | exact HB.out)))); have n3_ := Aside0.mk (below_step (by repeat (first | (with_reducible first | exact HB.out | apply below_alloc | apply pw_below_drewN | apply below_drew1) | exact HB.out)) hb); clear HO_3; clear HO_4; clear HB; have HO_3 := n0_; have HO_4 := n1_; have HO116 := n2_; have HB := n3_; clear n0_ n1_ n2_ n3_; clear hb ho11; obtain ⟨Ao12, co12, eo12⟩ := Kd.R_slice HO116.out; subst eo12) | ((with_reducible refine gate_builtin (b := .append) (xs := #[.tmp 26, .tmp 34]) rfl ?_); at_builtin; refine Kd.N_append k62 (w0 := w) w.heap.size rfl (.tmp 26) (.tmp 34) 60 62 (.agg #[(.int .i64 0), (.slice none 0 0)]) 32 rfl Try.underlying60 info62 rfl (by decide) (by omega) u4 x4_1 (⟨rd l0 x5_1, y114⟩ : S62) [.int .i64 (rd l0 x5_1), .slice Ao12 y114.length co12] (fun k_ => some k_ ≠ (v110 : Value).ownBlock) (fun k_ => ((fun k_ => some k_ ≠ (v110 : Value).ownBlock)) k_ ∧ some k_ ≠ (u4 : Value).ownBlock) rfl rfl ?aP (fun _ hk => hk) ?aF ?aO ?aB ?aS ?aL ?_; (case aP => exact (k62_mkF _ _ (⟨rd l0 x5_1, y114⟩ : S62) (Kd.R_reads' (Kd.R_mono (ok' := (fun k_ => ((fun k_ => some k_ ≠ (v110 : Value).ownBlock)) k_ ∧ some k_ ≠ (u4 : Value).ownBlock)) (Kd.R_apart' (HO116.out) (Kd.N_typed HO_4.out) (by decide)) (fun k_ hk => ⟨hk.1.2, hk.2⟩))).2.1 (Kd.R_F (Kd.R_mono (ok' := (fun k_ => ((fun k_ => some k_ ≠ (v110 : Value).ownBlock)) k_ ∧ some k_ ≠ (u4 : Value).ownBlock)) (Kd.R_apart' (HO116.out) (Kd.N_typed HO_4.out) (by decide)) (fun k_ hk => ⟨hk.1.2, hk.2⟩))))); (case aB => exact (by repeat (first | (with_reducible first | exact HB.out | apply below_alloc | apply pw_below_drewN | apply below_drew1) | exact HB.out))); (case aF => exact (fun k_ hk => Kd.fresh' (Kd.R_lt (by (with_reducible repeat (first | apply Kd.R_alloc | apply Kd.R_drewN | apply Kd.R_drew)); exact HO_3.out)) k_ hk)); (case aO => exact (by (with_reducible repeat (first | apply Kd.N_alloc | apply Kd.N_drewN | apply Kd.N_drew)); exact Kd.N_mono HO_4.out (fun _ hk => hk.1))); (case aS => exact (below_size (by repeat (first | (with_reducible first | exact HB.out | apply below_alloc | apply pw_below_drewN | apply below_drew1) | exact HB.out)))); (case aL => have := LMc9.out; omega); intro v118 w13 ho hb hg hat; rw [← Ny117.out] at ho; have n0_ := Aside0.mk (Kd.R_over' (by (with_reducible repeat (first | apply Kd.R_alloc | apply Kd.R_drewN | apply Kd.R_drew)); exact HO_3.out) (Kd.N_typed (by (with_reducible repeat (first | apply Kd.N_alloc | apply Kd.N_drewN | apply Kd.N_drew)); exact HO_4.out)) (by decide) hg); have n1_ := Aside0.mk (hb); have n2_ := Aside0.mk (ho); clear HO_3; clear HB; clear HO_4; clear HO116; have HO_3 := n0_; have HB := n1_; have HO119 := n2_; clear n0_ n1_ n2_; clear ho hb hg hat))
                  go_roundg k1
                  case measure => have := HK1.out; omega
                  case rel => exact ⟨(y117), (wrap64 (x5_1 + 1)), (by first | rfl | (simp; done) | (simp [*]; done)), H', ⟨by have := HK1.out; omega⟩, ⟨by (with_reducible repeat (first | apply Kd.R_alloc | apply Kd.R_drewN | apply Kd.R_drew)); exact Kd.R_mono HO_3.out (fun _ hk => trivial)⟩, ⟨by (with_reducible repeat (first | apply Kd.N_alloc | apply Kd.N_drewN | apply Kd.N_drew)); exact HO119.out⟩, ⟨by repeat (first | (with_reducible first | exact HB.out | apply below_alloc | apply pw_below_drewN | apply below_drew1) | exact HB.out)⟩⟩
                · rw [if_neg c9] at H
                  exact absurd H (by simp)
              · rw [if_neg c8] at H
                have c8b0 : decide (0 < (rd l0 x5_1)) = false := decide_eq_false c8
                clear c8
                have H' := Aside0.mk H
                clear H
                have p112 : 0 ≤ (x5_1 : Int) := of_decide_eq_true (by first | (with_reducible assumption) | assumption)
                have q112 : x5_1 < (l0.length : Int) := of_decide_eq_true (by first | (with_reducible assumption) | assumption)
                obtain ⟨ad112, e112, hx112_0⟩ := Kd.at_int HR0.out x5_1 p112 q112
                cases e112
                replace hx112_0 := (HB.out.cell (World.block_lt_of_cell? w _ hx112_0)).trans hx112_0
                replace p112 := eq_true p112
                replace q112 := eq_true q112
                go_wp2
                go_roundg k1
                case measure => have := HK1.out; omega
                case rel => exact ⟨(x4_1), (wrap64 (x5_1 + 1)), (by first | rfl | (simp; done) | (simp [*]; done)), H', ⟨by have := HK1.out; omega⟩, ⟨by (with_reducible repeat (first | apply Kd.R_alloc | apply Kd.R_drewN | apply Kd.R_drew)); exact HO_3.out⟩, ⟨by (with_reducible repeat (first | apply Kd.N_alloc | apply Kd.N_drewN | apply Kd.N_drew)); exact HO_4.out⟩, ⟨by repeat (first | (with_reducible first | exact HB.out | apply below_alloc | apply pw_below_drewN | apply below_drew1) | exact HB.out)⟩⟩
            · rw [if_neg c7] at H
              exact absurd H (by simp)
          · rw [if_neg c6] at H
            have c6b0 : decide (x5_1 < (l0.length : Int)) = false := decide_eq_false c6
            clear c6
            have HC14 := Aside0.mk H
            clear H
            obtain ⟨Ao15, co15, eo15⟩ := Kd.N_slice HO_4.out
            subst eo15
            go_upto_if 38 with (fail)
            go_cut [] (fun wc => ∃ (kq : Nat) (x3_13 : List Int), Aside0 (wherryref01_lengths.j1 kq x3_13 x4_1 = some r) ∧ Aside0 (kq ≤ k1) ∧ Aside0 (Kd.R (Kd.int .i64) 3 wc w.heap.size (fun _ => True) v110 x3_13) ∧ Aside0 (Kd.N k62 62 wc w.heap.size (fun k_ => some k_ ≠ (v110 : Value).ownBlock) (.slice Ao15 x4_1.length co15) x4_1) ∧ Aside0 (Below w.heap.size w wc))
            case first =>
              have H := HC14.out
              clear HC14
              by_cases c16 : (x4_1.length : Int) = 1
              · rw [if_pos c16] at H
                have c16b0 : ((x4_1.length : Int) == 1) = true := beq_iff_eq.mpr c16
                have c16b1 : ((x4_1.length : Int) != 1) = false := bne_eq_false_iff_eq.mpr c16
                clear c16
                (first | rw [c16b0] | (simp only [i64_w, i32_w]; rw [c16b0]) | skip)
                by_cases c17 : 0 < (x4_1.length : Int)
                · rw [if_pos c17] at H
                  have c17b0 : decide (0 < (x4_1.length : Int)) = true := decide_eq_true c17
                  have c17b1 : decide (0 < x4_1.length) = true := decide_eq_true (by omega)
                  clear c17
                  by_cases c18 : 0 < (((rd_T62 x4_1 0).f1).length : Int)
                  · rw [if_pos c18] at H
                    have c18b0 : decide (0 < (((rd_T62 x4_1 0).f1).length : Int)) = true := decide_eq_true c18
                    have c18b1 : decide (0 < ((rd_T62 x4_1 0).f1).length) = true := decide_eq_true (by omega)
                    clear c18
                    by_cases c19 : 0 ≤ (rd ((rd_T62 x4_1 0).f1) 0)
                    · rw [if_pos c19] at H
                      have c19b0 : decide (0 ≤ (rd ((rd_T62 x4_1 0).f1) 0)) = true := decide_eq_true c19
                      clear c19
                      by_cases c20 : (rd ((rd_T62 x4_1 0).f1) 0) < (y109.length : Int)
                      · rw [if_pos c20] at H
                        have c20b0 : decide ((rd ((rd_T62 x4_1 0).f1) 0) < (y109.length : Int)) = true := decide_eq_true c20
                        clear c20
                        obtain ⟨y122, hy122⟩ : ∃ y_ : List Int, y_ = (y109.set ((rd ((rd_T62 x4_1 0).f1) 0) : Int).toNat 1) := ⟨_, rfl⟩
                        replace H : (wherryref01_lengths.j1 k1 y122 x4_1) = some r := by first | (rw [hy122]; with_reducible exact H) | (have H2_ := (Option.bind_some _ _).symm.trans H; rw [hy122]; with_reducible exact H2_) | (have H2_ := (Option.bind_some _ _).symm.trans H; with_reducible exact H2_) | with_reducible exact H | (rw [hy122]; exact H) | exact H
                        have Ny122 := Aside0.mk hy122
                        clear hy122
                        have H' := Aside0.mk H
                        clear H
                        have p120 : 0 ≤ (0 : Int) := (by omega)
                        have q120 : 0 < (x4_1.length : Int) := of_decide_eq_true (by first | (with_reducible assumption) | assumption)
                        obtain ⟨ad120, A120_1, c120_1, e120, hx120_0, hx120_1, hl120_1, hi120_1⟩ := at_T62 (Kd.N_reads' HO_4.out).2.2 0 p120 q120
                        cases e120
                        obtain ⟨ce120, hce120, hMe120, hcc120⟩ := Kd.N_get HO_4.out z62 0 p120 (by first | exact q120 | exact of_decide_eq_true (by first | (with_reducible assumption) | assumption) | (have e_ := (Kd.N_reads' HO_4.out).1; omega))
                        obtain ⟨ua120_1, uc120_1, rfl, ul120_1, ge120_1⟩ := k62_openF hMe120
                        have hv120_1 := hcc120 1 _ rfl
                        rw [add_field _ _ 1 (by omega)] at hv120_1
                        replace hv120_1 := Option.some.inj (hv120_1.symm.trans hx120_1)
                        injection hv120_1 with hva_ hvn_ hvc_
                        rw [hva_] at ge120_1
                        rw [hvc_] at ul120_1
                        have HL120_1 := Aside0.mk (show Kd.V (Kd.int .i64) 3 _ w.heap.size _ _ ((rd_T62 x4_1 0).f1) from Kd.V_mk ul120_1 ge120_1)
                        clear hva_ hvn_ hvc_ ge120_1 ul120_1
                        clear hcc120 hce120
                        have qi120 : (0 < x4_1.length) = True := eq_true (by omega)
                        (try rw [show ((0 : Int)).toNat = 0 from rfl] at hx120_0)
                        (try rw [show 0 * 2 = 0 from rfl] at hx120_0)
                        (try rw [Addr.add_zero'] at hx120_0)
                        (try rw [show ((0 : Int)).toNat = 0 from rfl] at hx120_1)
                        (try rw [show 0 * 2 = 0 from rfl] at hx120_1)
                        (try rw [Addr.add_zero'] at hx120_1)
                        have HR120_1 := Aside0.mk hi120_1
                        have HC120_1 := Aside0.mk hl120_1
                        clear hi120_1 hl120_1
                        replace p120 := eq_true p120
                        replace q120 := eq_true q120
                        have p121 : 0 ≤ (0 : Int) := (by omega)
                        have q121 : 0 < (((rd_T62 x4_1 0).f1).length : Int) := of_decide_eq_true (by first | (with_reducible assumption) | assumption)
                        obtain ⟨ad121, e121, hx121_0⟩ := Kd.at_int (by repeat (first | (with_reducible exact HR120_1.out) | (with_reducible refine Kd.C_alloc ?_ _) | (with_reducible refine Kd.C_drewN ?_ _) | (with_reducible refine Kd.C_drew ?_) | exact HR120_1.out)) 0 p121 q121
                        cases e121
                        have qi121 : (0 < ((rd_T62 x4_1 0).f1).length) = True := eq_true (by omega)
                        (try rw [show ((0 : Int)).toNat = 0 from rfl] at hx121_0)
                        (try rw [Addr.add_zero'] at hx121_0)
                        replace p121 := eq_true p121
                        replace q121 := eq_true q121
                        have p21 : 0 ≤ ((rd ((rd_T62 x4_1 0).f1) 0) : Int) := of_decide_eq_true (by first | (with_reducible assumption) | assumption)
                        have q21 : ((rd ((rd_T62 x4_1 0).f1) 0) : Int) < ((y109.length : Int) : Int) := of_decide_eq_true (by first | (with_reducible assumption) | assumption)
                        obtain ⟨go21, co21, eo21, gb21, gl21, cl21, HG21⟩ := Kd.R_form HO_3.out (by omega)
                        (first | cases eo21 | (injection eo21 with ea_ en_ ec_; (first | subst ea_ | (injection ea_ with ea_; subst ea_)); subst ec_; clear en_))
                        have GB21 := Aside0.mk gb21
                        have GG21 := Aside0.mk HG21
                        clear gb21 gl21 HG21
                        obtain ⟨hx21_0, hf21_0⟩ := Kd.R_celln 0 HO_3.out ((rd ((rd_T62 x4_1 0).f1) 0) : Int) p21 q21
                        replace p21 := eq_true p21
                        replace q21 := eq_true q21
                        have HP22 := Kd.R_putg HO_3.out ((rd ((rd_T62 x4_1 0).f1) 0) : Int) 1
                        go_wp2_with (first | ((with_reducible refine gate_store (t := 3) (p := 46) rfl ?_); refine store_event (t := 3) (p := 46) (v := ?vo_w23) (w1 := (wr.setCell ⟨go21, ((rd ((rd_T62 x4_1 0).f1) 0) : Int).toNat, none⟩ (.int .i64 1))) ?hg ?ho ?hn ?hr ?_; (case ho => rfl); (case hg => rfl); (case hn => rfl); (case hr => first | (go_simp; done) | (go_simp; rfl)); intro w23 hw; have hg : wr.grownBy w23 (some go21) := (by rw [hw]; exact HP22.2); have hp_ : Kd.R (Kd.int .i64) 3 w23 w.heap.size (fun _ => True) (.slice (some ⟨go21, 0, none⟩) y109.length co21) y122 := (by rw [hw, Ny122.out]; exact HP22.1); clear HP22; have n0_ := Aside0.mk (hp_); have n1_ := Aside0.mk (Kd.N_afterv (v := (.slice (some ⟨go21, 0, none⟩) y109.length co21)) (v1 := (.slice (some ⟨go21, 0, none⟩) y109.length co21)) (ok := (fun _ => True)) (by (with_reducible repeat (first | apply Kd.N_alloc | apply Kd.N_drewN | apply Kd.N_drew)); exact Kd.N_mono HO_4.out (fun _ hk => ⟨trivial, hk⟩)) hg (.inl rfl)); have n2_ := Aside0.mk (Kd.V_afterv (v := (.slice (some ⟨go21, 0, none⟩) y109.length co21)) (v1 := (.slice (some ⟨go21, 0, none⟩) y109.length co21)) (ok := (fun k_ => some k_ ≠ (.slice (some ad120) x4_1.length co15 : Value).ownBlock)) (by (with_reducible repeat (first | apply Kd.V_alloc | apply Kd.V_drewN | apply Kd.V_drew)); exact Kd.V_mono HL120_1.out (fun _ hk => ⟨hk.2, hk.1⟩)) hg (.inl rfl)); have n3_ := Aside0.mk ((by rw [hw]; exact below_set (HB.out) GB21.out : Below w.heap.size w w23)); clear HO_3; clear HO_4; clear HL120_1; clear HB; have HO_3 := n0_; have HO_4 := n1_; have HL120_1 := n2_; have HB := n3_; clear n0_ n1_ n2_ n3_; clear hg hw hp_))
                        go_meet
                        case rel => exact ⟨_, (y122), H', ⟨by have := HK1.out; first | omega | exact Nat.le_refl _⟩, ⟨by (with_reducible repeat (first | apply Kd.R_alloc | apply Kd.R_drewN | apply Kd.R_drew)); exact HO_3.out⟩, ⟨by (with_reducible repeat (first | apply Kd.N_alloc | apply Kd.N_drewN | apply Kd.N_drew)); exact Kd.N_mono HO_4.out (fun _ hk => hk.2)⟩, ⟨by repeat (first | (with_reducible first | exact HB.out | apply below_alloc | apply pw_below_drewN | apply below_drew1) | exact HB.out)⟩⟩
                      · rw [if_neg c20] at H
                        exact absurd H (by simp)
                    · rw [if_neg c19] at H
                      exact absurd H (by simp)
                  · rw [if_neg c18] at H
                    exact absurd H (by simp)
                · rw [if_neg c17] at H
                  exact absurd H (by simp)
              · rw [if_neg c16] at H
                have c16b0 : ((x4_1.length : Int) == 1) = false := beq_eq_false_iff_ne.mpr c16
                have c16b1 : ((x4_1.length : Int) != 1) = true := bne_iff_ne.mpr c16
                (first | rw [c16b0] | (simp only [i64_w, i32_w]; rw [c16b0]) | skip)
                have H' := Aside0.mk H
                clear H
                go_wp2
                go_meet
                case rel => exact ⟨_, (y109), H', ⟨by have := HK1.out; first | omega | exact Nat.le_refl _⟩, ⟨by (with_reducible repeat (first | apply Kd.R_alloc | apply Kd.R_drewN | apply Kd.R_drew)); exact HO_3.out⟩, ⟨by (with_reducible repeat (first | apply Kd.N_alloc | apply Kd.N_drewN | apply Kd.N_drew)); exact HO_4.out⟩, ⟨by repeat (first | (with_reducible first | exact HB.out | apply below_alloc | apply pw_below_drewN | apply below_drew1) | exact HB.out)⟩⟩
            case rest =>
              clear HC14
              try clear c1
              try clear p1
              try clear q1
              try clear hx1
              try clear qi1
              try clear c2
              try clear c2b0
              try clear c2b1
              try clear p2
              try clear q2
              try clear hx2
              try clear hf2
              try clear c3
              try clear c3b0
              try clear c3b1
              try clear c6
              try clear c6b0
              try clear p6
              try clear c7
              try clear c7b0
              try clear c8
              try clear c8b0
              try clear c9
              try clear p11
              try clear q11
              try clear hx11
              try clear c12
              try clear p12
              try clear q12
              try clear hx12
              try clear qi12
              try clear c16
              try clear c16b0
              try clear c16b1
              try clear c17
              try clear c17b0
              try clear c17b1
              try clear c18
              try clear c18b0
              try clear c18b1
              try clear c19
              try clear c19b0
              try clear c20
              try clear c20b0
              try clear p21
              try clear q21
              try clear hx21
              try clear hf21
              try clear hx112_0
              try clear hx113_0
              try clear hx120_0
              try clear hx120_1
              try clear hx121_0
              try clear hx21_0
              try clear p112
              try clear p113
              try clear p120
              try clear p121
              try clear p2
              try clear p21
              try clear q112
              try clear q113
              try clear q120
              try clear q121
              try clear q21
              obtain ⟨kq, x3_13, HA, HJ13, HO_3, HO_4, HB⟩ := hcut
              cases kq with
              | zero => exact absurd HA.out (by simp [wherryref01_lengths.j1])
              | succ kj13 =>
                have H := HA.out
                clear HA
                simp only [wherryref01_lengths.j1] at H
                have H' := Aside0.mk H
                clear H
                go_wp2
                go_loopg [4] kj13 (fun kq v4 w' => ∃ (x3_3 : List Int) (x4_3 : List (S62)), Aside0 (wherryref01_lengths.l1 kq x3_3 x4_3 = some r) ∧ Aside0 (kq ≤ kj13) ∧ Aside0 (Kd.R (Kd.int .i64) 3 w' w.heap.size (fun _ => True) v110 x3_3) ∧ Aside0 (Kd.N k62 62 w' w.heap.size (fun k_ => some k_ ≠ (v110 : Value).ownBlock) v4 x4_3) ∧ Aside0 (Below w.heap.size w w'))
                case atStart => exact ⟨(x3_13), (x4_1), H', ⟨Nat.le_refl _⟩, ⟨by (with_reducible repeat (first | apply Kd.R_alloc | apply Kd.R_drewN | apply Kd.R_drew)); exact HO_3.out⟩, ⟨by (with_reducible repeat (first | apply Kd.N_alloc | apply Kd.N_drewN | apply Kd.N_drew)); exact HO_4.out⟩, ⟨by repeat (first | (with_reducible first | exact HB.out | apply below_alloc | apply pw_below_drewN | apply below_drew1) | exact HB.out)⟩⟩
                case round =>
                  clear H'
                  try clear c1
                  try clear p1
                  try clear q1
                  try clear hx1
                  try clear qi1
                  try clear c2
                  try clear c2b0
                  try clear c2b1
                  try clear p2
                  try clear q2
                  try clear hx2
                  try clear hf2
                  try clear c3
                  try clear c3b0
                  try clear c3b1
                  try clear c6
                  try clear c6b0
                  try clear p6
                  try clear c7
                  try clear c7b0
                  try clear c8
                  try clear c8b0
                  try clear c9
                  try clear p11
                  try clear q11
                  try clear hx11
                  try clear c12
                  try clear p12
                  try clear q12
                  try clear hx12
                  try clear qi12
                  try clear c16
                  try clear c16b0
                  try clear c16b1
                  try clear c17
                  try clear c17b0
                  try clear c17b1
                  try clear c18
                  try clear c18b0
                  try clear c18b1
                  try clear c19
                  try clear c19b0
                  try clear c20
                  try clear c20b0
                  try clear p21
                  try clear q21
                  try clear hx21
                  try clear hf21
                  try clear hx112_0
                  try clear hx113_0
                  try clear hx120_0
                  try clear hx120_1
                  try clear hx121_0
                  try clear hx21_0
                  try clear p1
                  try clear p11
                  try clear p112
                  try clear p113
                  try clear p12
                  try clear p120
                  try clear p121
                  try clear p2
                  try clear p21
                  try clear p6
                  try clear q1
                  try clear q11
                  try clear q112
                  try clear q113
                  try clear q12
                  try clear q120
                  try clear q121
                  try clear q2
                  try clear q21
                  obtain ⟨x3_3, x4_3, HA, HK3, HO_3, HO_4, HB⟩ := hrel
                  cases gk with
                  | zero => exact absurd HA.out (by simp [wherryref01_lengths.l1])
                  | succ k3 =>
                    have H := HA.out
                    clear HA
                    simp only [wherryref01_lengths.l1] at H
                    by_cases c24 : (x4_3.length : Int) > 1
                    · rw [if_pos c24] at H
                      have c24b0 : decide (1 < (x4_3.length : Int)) = true := decide_eq_true c24
                      have c24b1 : decide (1 < x4_3.length) = true := decide_eq_true (by omega)
                      clear c24
                      replace H := Option.bind_eq_some_iff.mp H
                      obtain ⟨t123, A250, H⟩ := H
                      replace H : ((wherryref01_least.f k3 x4_3 t123).bind fun t124 => (if 0 ≤ t123 then (if t123 < (x4_3.length : Int) then (if 0 ≤ t124 then (if t124 < (x4_3.length : Int) then (if ([] : List Int).length + ((rd_T62 x4_3 t123).f1).length < 17592186044416 then ((some (([] : List Int) ++ ((rd_T62 x4_3 t123).f1) : List Int)).bind fun y129 => (if y129.length + ((rd_T62 x4_3 t124).f1).length < 17592186044416 then (wherryref01_lengths.l2 k3 x3_3 x4_3 t123 t124 0 (wrap64 (((rd_T62 x4_3 t123).f0) + ((rd_T62 x4_3 t124).f0))) (y129 ++ ((rd_T62 x4_3 t124).f1))) else (none))) else (none)) else (none)) else (none)) else (none)) else (none))) = some r := H
                      have A25 := Aside0.mk A250
                      clear A250
                      replace H := Option.bind_eq_some_iff.mp H
                      obtain ⟨t124, A260, H⟩ := H
                      replace H : (if 0 ≤ t123 then (if t123 < (x4_3.length : Int) then (if 0 ≤ t124 then (if t124 < (x4_3.length : Int) then (if ([] : List Int).length + ((rd_T62 x4_3 t123).f1).length < 17592186044416 then ((some (([] : List Int) ++ ((rd_T62 x4_3 t123).f1) : List Int)).bind fun y129 => (if y129.length + ((rd_T62 x4_3 t124).f1).length < 17592186044416 then (wherryref01_lengths.l2 k3 x3_3 x4_3 t123 t124 0 (wrap64 (((rd_T62 x4_3 t123).f0) + ((rd_T62 x4_3 t124).f0))) (y129 ++ ((rd_T62 x4_3 t124).f1))) else (none))) else (none)) else (none)) else (none)) else (none)) else (none)) = some r := H
                      have A26 := Aside0.mk A260
                      clear A260
                      by_cases c27 : 0 ≤ t123
                      · rw [if_pos c27] at H
                        have c27b0 : decide (0 ≤ t123) = true := decide_eq_true c27
                        clear c27
                        by_cases c28 : t123 < (x4_3.length : Int)
                        · rw [if_pos c28] at H
                          have c28b0 : decide (t123 < (x4_3.length : Int)) = true := decide_eq_true c28
                          clear c28
                          by_cases c29 : 0 ≤ t124
                          · rw [if_pos c29] at H
                            have c29b0 : decide (0 ≤ t124) = true := decide_eq_true c29
                            clear c29
                            by_cases c30 : t124 < (x4_3.length : Int)
                            · rw [if_pos c30] at H
                              have c30b0 : decide (t124 < (x4_3.length : Int)) = true := decide_eq_true c30
                              clear c30
                              by_cases c31 : ([] : List Int).length + ((rd_T62 x4_3 t123).f1).length < 17592186044416
                              · rw [if_pos c31] at H
                                have LMc31 := Aside0.mk c31
                                clear c31
                                obtain ⟨y129, hy129⟩ : ∃ y_ : List Int, y_ = (([] : List Int) ++ ((rd_T62 x4_3 t123).f1)) := ⟨_, rfl⟩
                                replace H : (if y129.length + ((rd_T62 x4_3 t124).f1).length < 17592186044416 then (wherryref01_lengths.l2 k3 x3_3 x4_3 t123 t124 0 (wrap64 (((rd_T62 x4_3 t123).f0) + ((rd_T62 x4_3 t124).f0))) (y129 ++ ((rd_T62 x4_3 t124).f1))) else (none)) = some r := by first | (rw [hy129]; with_reducible exact H) | (have H2_ := (Option.bind_some _ _).symm.trans H; rw [hy129]; with_reducible exact H2_) | (have H2_ := (Option.bind_some _ _).symm.trans H; with_reducible exact H2_) | with_reducible exact H | (rw [hy129]; exact H) | exact H
                                have Ny129 := Aside0.mk hy129
                                clear hy129
                                by_cases c32 : y129.length + ((rd_T62 x4_3 t124).f1).length < 17592186044416
                                · rw [if_pos c32] at H
                                  have LMc32 := Aside0.mk c32
                                  clear c32
                                  obtain ⟨y133, hy133⟩ : ∃ y_ : List Int, y_ = (y129 ++ ((rd_T62 x4_3 t124).f1)) := ⟨_, rfl⟩
                                  replace H : (wherryref01_lengths.l2 k3 x3_3 x4_3 t123 t124 0 (wrap64 (((rd_T62 x4_3 t123).f0) + ((rd_T62 x4_3 t124).f0))) y133) = some r := by first | (rw [hy133]; with_reducible exact H) | (have H2_ := (Option.bind_some _ _).symm.trans H; rw [hy133]; with_reducible exact H2_) | (have H2_ := (Option.bind_some _ _).symm.trans H; with_reducible exact H2_) | with_reducible exact H | (rw [hy133]; exact H) | exact H
                                  have Ny133 := Aside0.mk hy133
                                  clear hy133
                                  have H' := Aside0.mk H
                                  clear H
                                  obtain ⟨Ao33, co33, eo33⟩ := Kd.N_slice HO_4.out
                                  subst eo33
                                  try go_wp2_with (first | ((with_reducible refine gate_callee (f := 34) rfl ?_); refine goesL_ (some 51) rfl rfl Try.func34 (by kernel_rfl) rfl #[.slice Ao33 x4_3.length co33, .int .i64 (-1)] rfl (by (try simp only [List.map_toArray, List.map_cons, List.map_nil]); first | done | rfl | (simp only [List.length_drop, List.length_take]; rfl)) ?_; (with_reducible refine (wherryref01_least.calls k3 _ _ x4_3 (-1) t123 _ ?side1 ?side2 A25.out).mono ?_); (case side1 => repeat (first | exact (Kd.N_reads' HO_4.out).2.2 | (with_reducible refine Kd.C_alloc ?_ _) | (with_reducible refine Kd.C_drewN ?_ _) | (with_reducible refine Kd.C_drew ?_))); (case side2 => exact (Kd.N_reads' HO_4.out).2.1); rintro e w' ⟨rfl, ⟨nd, rfl⟩⟩; refine ⟨_, rfl, ?_⟩; (try (rw [drewN_self wr]; generalize hq_ : World.drewN wr _ = wr; have n0_ : Aside0 (Kd.R (Kd.int .i64) 3 wr w.heap.size (fun _ => True) v110 x3_3) := ⟨by rw [← hq_]; exact (by (with_reducible repeat (first | apply Kd.R_alloc | apply Kd.R_drewN | apply Kd.R_drew)); exact HO_3.out)⟩; have n1_ : Aside0 (Kd.N k62 62 wr w.heap.size (fun k_ => some k_ ≠ (v110 : Value).ownBlock) (.slice Ao33 x4_3.length co33) x4_3) := ⟨by rw [← hq_]; exact (by (with_reducible repeat (first | apply Kd.N_alloc | apply Kd.N_drewN | apply Kd.N_drew)); exact HO_4.out)⟩; have n2_ : Aside0 (Below w.heap.size w wr) := ⟨by rw [← hq_]; exact (by repeat (first | (with_reducible first | exact HB.out | apply below_alloc | apply pw_below_drewN | apply below_drew1) | exact HB.out))⟩; clear HO_3 HO_4 HB hq_; have HO_3 := n0_; have HO_4 := n1_; have HB := n2_; clear n0_ n1_ n2_))) | ((with_reducible refine gate_callee (f := 34) rfl ?_); refine goesL_ (some 54) rfl rfl Try.func34 (by kernel_rfl) rfl #[.slice Ao33 x4_3.length co33, .int .i64 t123] rfl (by (try simp only [List.map_toArray, List.map_cons, List.map_nil]); first | done | rfl | (simp only [List.length_drop, List.length_take]; rfl)) ?_; (with_reducible refine (wherryref01_least.calls k3 _ _ x4_3 t123 t124 _ ?side1 ?side2 A26.out).mono ?_); (case side1 => repeat (first | exact (Kd.N_reads' HO_4.out).2.2 | (with_reducible refine Kd.C_alloc ?_ _) | (with_reducible refine Kd.C_drewN ?_ _) | (with_reducible refine Kd.C_drew ?_))); (case side2 => exact (Kd.N_reads' HO_4.out).2.1); rintro e w' ⟨rfl, ⟨nd, rfl⟩⟩; refine ⟨_, rfl, ?_⟩; (try (rw [drewN_self wr]; generalize hq_ : World.drewN wr _ = wr; have n0_ : Aside0 (Kd.R (Kd.int .i64) 3 wr w.heap.size (fun _ => True) v110 x3_3) := ⟨by rw [← hq_]; exact (by (with_reducible repeat (first | apply Kd.R_alloc | apply Kd.R_drewN | apply Kd.R_drew)); exact HO_3.out)⟩; have n1_ : Aside0 (Kd.N k62 62 wr w.heap.size (fun k_ => some k_ ≠ (v110 : Value).ownBlock) (.slice Ao33 x4_3.length co33) x4_3) := ⟨by rw [← hq_]; exact (by (with_reducible repeat (first | apply Kd.N_alloc | apply Kd.N_drewN | apply Kd.N_drew)); exact HO_4.out)⟩; have n2_ : Aside0 (Below w.heap.size w wr) := ⟨by rw [← hq_]; exact (by repeat (first | (with_reducible first | exact HB.out | apply below_alloc | apply pw_below_drewN | apply below_drew1) | exact HB.out))⟩; clear HO_3 HO_4 HB hq_; have HO_3 := n0_; have HO_4 := n1_; have HB := n2_; clear n0_ n1_ n2_))))
                                  have n0_ := Aside0.mk (Kd.R_drew HO_3.out)
                                  have n1_ := Aside0.mk (Kd.N_drew HO_4.out)
                                  have n2_ := Aside0.mk (below_drew1 HB.out)
                                  clear HO_3
                                  clear HO_4
                                  clear HB
                                  have HO_3 := n0_
                                  have HO_4 := n1_
                                  have HB := n2_
                                  clear n0_ n1_ n2_
                                  have p125 : 0 ≤ (t123 : Int) := of_decide_eq_true (by first | (with_reducible assumption) | assumption)
                                  have q125 : t123 < (x4_3.length : Int) := of_decide_eq_true (by first | (with_reducible assumption) | assumption)
                                  obtain ⟨ad125, A125_1, c125_1, e125, hx125_0, hx125_1, hl125_1, hi125_1⟩ := at_T62 (Kd.N_reads' HO_4.out).2.2 t123 p125 q125
                                  cases e125
                                  obtain ⟨ce125, hce125, hMe125, hcc125⟩ := Kd.N_get HO_4.out z62 t123 p125 (by first | exact q125 | exact of_decide_eq_true (by first | (with_reducible assumption) | assumption) | (have e_ := (Kd.N_reads' HO_4.out).1; omega))
                                  obtain ⟨ua125_1, uc125_1, rfl, ul125_1, ge125_1⟩ := k62_openF hMe125
                                  have hv125_1 := hcc125 1 _ rfl
                                  rw [add_field _ _ 1 (by omega)] at hv125_1
                                  replace hv125_1 := Option.some.inj (hv125_1.symm.trans hx125_1)
                                  injection hv125_1 with hva_ hvn_ hvc_
                                  rw [hva_] at ge125_1
                                  rw [hvc_] at ul125_1
                                  have HL125_1 := Aside0.mk (show Kd.V (Kd.int .i64) 3 _ w.heap.size _ _ ((rd_T62 x4_3 t123).f1) from Kd.V_mk ul125_1 ge125_1)
                                  clear hva_ hvn_ hvc_ ge125_1 ul125_1
                                  clear hcc125 hce125
                                  have HR125_1 := Aside0.mk hi125_1
                                  have HC125_1 := Aside0.mk hl125_1
                                  clear hi125_1 hl125_1
                                  replace p125 := eq_true p125
                                  replace q125 := eq_true q125
                                  have p126 : 0 ≤ (t124 : Int) := of_decide_eq_true (by first | (with_reducible assumption) | assumption)
                                  have q126 : t124 < (x4_3.length : Int) := of_decide_eq_true (by first | (with_reducible assumption) | assumption)
                                  obtain ⟨ad126, A126_1, c126_1, e126, hx126_0, hx126_1, hl126_1, hi126_1⟩ := at_T62 (Kd.N_reads' HO_4.out).2.2 t124 p126 q126
                                  obtain rfl : ad125 = ad126 := (by injection e126)
                                  obtain ⟨ce126, hce126, hMe126, hcc126⟩ := Kd.N_get HO_4.out z62 t124 p126 (by first | exact q126 | exact of_decide_eq_true (by first | (with_reducible assumption) | assumption) | (have e_ := (Kd.N_reads' HO_4.out).1; omega))
                                  obtain ⟨ua126_1, uc126_1, rfl, ul126_1, ge126_1⟩ := k62_openF hMe126
                                  have hv126_1 := hcc126 1 _ rfl
                                  rw [add_field _ _ 1 (by omega)] at hv126_1
                                  replace hv126_1 := Option.some.inj (hv126_1.symm.trans hx126_1)
                                  injection hv126_1 with hva_ hvn_ hvc_
                                  rw [hva_] at ge126_1
                                  rw [hvc_] at ul126_1
                                  have HL126_1 := Aside0.mk (show Kd.V (Kd.int .i64) 3 _ w.heap.size _ _ ((rd_T62 x4_3 t124).f1) from Kd.V_mk ul126_1 ge126_1)
                                  clear hva_ hvn_ hvc_ ge126_1 ul126_1
                                  clear hcc126 hce126
                                  have HR126_1 := Aside0.mk hi126_1
                                  have HC126_1 := Aside0.mk hl126_1
                                  clear hi126_1 hl126_1
                                  replace p126 := eq_true p126
                                  replace q126 := eq_true q126
                                  refine start_ (n := 14) (S := fun w' => w'.cell? (ad125.add ((t123).toNat * 2)) = some (.int .i64 ((rd_T62 x4_3 t123).f0)) ∧ w'.cell? ⟨(ad125.add ((t123).toNat * 2)).block, (ad125.add ((t123).toNat * 2)).off + 1, none⟩ = some (.slice A125_1 ((rd_T62 x4_3 t123).f1).length c125_1) ∧ w'.cell? (ad125.add ((t124).toNat * 2)) = some (.int .i64 ((rd_T62 x4_3 t124).f0)) ∧ w'.cell? ⟨(ad125.add ((t124).toNat * 2)).block, (ad125.add ((t124).toNat * 2)).off + 1, none⟩ = some (.slice A126_1 ((rd_T62 x4_3 t124).f1).length c126_1)) (ds := []) #[false, false, false, false, false, false, false, false, false, false, false, false, false, false] (by kernel_rfl) rfl rfl ⟨hx125_0, hx125_1, hx126_0, hx126_1⟩ (fun hHeld => ?_); refine with_tabW wherryref01_lengths.tab13 wherryref01_lengths.bits13 (fun HT_ HW_ => ?_)
                                  generalize wr.drew = w34 at HO_3 HO_4 HB HL125_1 HL126_1 HR125_1 HR126_1 hx125_0 hx125_1 hx126_0 hx126_1 hHeld ⊢
                                  refine pure_ (i := 0) (N := some 55) (v := ?_) (a' := ?_) #[true, false, false, false, false, false, false, false, false, false, false, false, false, false] rfl rfl (any_of HT_.out (by kernel_rfl)) (fun _ _ _ h => h) (Or.inl ⟨by rfl, ?_⟩) ?_ ?_
                                  rotate_left
                                  · intro w'
                                    go_simp
                                    with_reducible rfl
                                  rotate_left
                                  · simp only [Act.put, List.setIfInBounds_toArray, List.set_cons_zero, List.set_cons_succ, i64_w, i32_w]
                                    rfl
                                  refine pure_ (i := 1) (N := some 56) (v := ?_) (a' := ?_) #[true, true, false, false, false, false, false, false, false, false, false, false, false, false] rfl rfl (any_of HT_.out (by kernel_rfl)) (fun _ _ _ h => h) (Or.inl ⟨by rfl, ?_⟩) ?_ ?_
                                  rotate_left
                                  · intro w'
                                    go_simp
                                    with_reducible rfl
                                  rotate_left
                                  · simp only [Act.put, List.setIfInBounds_toArray, List.set_cons_zero, List.set_cons_succ, i64_w, i32_w]
                                    rfl
                                  refine pure_ (i := 2) (N := some 57) (v := ?_) (a' := ?_) #[true, true, true, false, false, false, false, false, false, false, false, false, false, false] rfl rfl (any_of HT_.out (by kernel_rfl)) (fun _ _ _ h => h) (Or.inl ⟨by rfl, ?_⟩) ?_ ?_
                                  rotate_left
                                  · intro w'
                                    go_simp
                                    with_reducible rfl
                                  rotate_left
                                  · simp only [Act.put, List.setIfInBounds_toArray, List.set_cons_zero, List.set_cons_succ, i64_w, i32_w]
                                    rfl
                                  refine pure_ (i := 3) (N := some 58) (v := ?_) (a' := ?_) #[true, true, true, true, false, false, false, false, false, false, false, false, false, false] rfl rfl (any_of HT_.out (by kernel_rfl)) (fun _ _ _ h => h) (Or.inl ⟨by rfl, ?_⟩) ?_ ?_
                                  rotate_left
                                  · intro w'
                                    go_simp
                                    with_reducible rfl
                                  rotate_left
                                  · simp only [Act.put, List.setIfInBounds_toArray, List.set_cons_zero, List.set_cons_succ, i64_w, i32_w]
                                    rfl
                                  refine pure_ (i := 5) (N := some 60) (v := ?_) (a' := ?_) #[true, true, true, true, false, true, false, false, false, false, false, false, false, false] rfl rfl (any_of HT_.out (by kernel_rfl)) (fun _ _ _ h => h) (Or.inl ⟨by rfl, ?_⟩) ?_ ?_
                                  rotate_left
                                  · intro w'
                                    go_simp
                                    with_reducible rfl
                                  rotate_left
                                  · simp only [Act.put, List.setIfInBounds_toArray, List.set_cons_zero, List.set_cons_succ, i64_w, i32_w]
                                    rfl
                                  refine pure_ (i := 6) (N := some 61) (v := ?_) (a' := ?_) #[true, true, true, true, false, true, true, false, false, false, false, false, false, false] rfl rfl (any_of HT_.out (by kernel_rfl)) (fun _ _ _ h => h) (Or.inl ⟨by rfl, ?_⟩) ?_ ?_
                                  rotate_left
                                  · intro w'
                                    go_simp
                                    with_reducible rfl
                                  rotate_left
                                  · simp only [Act.put, List.setIfInBounds_toArray, List.set_cons_zero, List.set_cons_succ, i64_w, i32_w]
                                    rfl
                                  refine pure_ (i := 7) (N := some 62) (v := ?_) (a' := ?_) #[true, true, true, true, false, true, true, true, false, false, false, false, false, false] rfl rfl (any_of HT_.out (by kernel_rfl)) (fun _ _ _ h => h) (Or.inl ⟨by rfl, ?_⟩) ?_ ?_
                                  rotate_left
                                  · intro w'
                                    go_simp
                                    with_reducible rfl
                                  rotate_left
                                  · simp only [Act.put, List.setIfInBounds_toArray, List.set_cons_zero, List.set_cons_succ, i64_w, i32_w]
                                    rfl
                                  refine pure_ (i := 8) (N := some 63) (v := ?_) (a' := ?_) #[true, true, true, true, false, true, true, true, true, false, false, false, false, false] rfl rfl (any_of HT_.out (by kernel_rfl)) (fun _ _ _ h => h) (Or.inl ⟨by rfl, ?_⟩) ?_ ?_
                                  rotate_left
                                  · intro w'
                                    go_simp
                                    with_reducible rfl
                                  rotate_left
                                  · simp only [Act.put, List.setIfInBounds_toArray, List.set_cons_zero, List.set_cons_succ, i64_w, i32_w]
                                    rfl
                                  refine take_ (i := 4) (N := some 59) (v := ?_) (a' := ?_) #[true, true, true, true, true, true, true, true, true, false, false, false, false, false] rfl rfl (take_ofW HT_.out HW_.out (by kernel_rfl)) (fun _ _ _ h => h) (Or.inl ⟨by rfl, ?_⟩) hHeld ?_ ?_
                                  rotate_left
                                  · rintro w' ⟨s0, s1, s2, s3⟩
                                    go_simp
                                    with_reducible rfl
                                  rotate_left
                                  · simp only [Act.put, List.setIfInBounds_toArray, List.set_cons_zero, List.set_cons_succ, i64_w, i32_w]
                                    rfl
                                  refine take_ (i := 9) (N := some 64) (v := ?_) (a' := ?_) #[true, true, true, true, true, true, true, true, true, true, false, false, false, false] rfl rfl (take_ofW HT_.out HW_.out (by kernel_rfl)) (fun _ _ _ h => h) (Or.inl ⟨by rfl, ?_⟩) hHeld ?_ ?_
                                  rotate_left
                                  · rintro w' ⟨s0, s1, s2, s3⟩
                                    go_simp
                                    with_reducible rfl
                                  rotate_left
                                  · simp only [Act.put, List.setIfInBounds_toArray, List.set_cons_zero, List.set_cons_succ, i64_w, i32_w]
                                    rfl
                                  refine pure_ (i := 10) (N := some 65) (v := ?_) (a' := ?_) #[true, true, true, true, true, true, true, true, true, true, true, false, false, false] rfl rfl (any_of HT_.out (by kernel_rfl)) (fun _ _ _ h => h) (Or.inl ⟨by rfl, ?_⟩) ?_ ?_
                                  rotate_left
                                  · intro w'
                                    go_simp
                                    with_reducible rfl
                                  rotate_left
                                  · simp only [Act.put, List.setIfInBounds_toArray, List.set_cons_zero, List.set_cons_succ, i64_w, i32_w]
                                    rfl
                                  refine pure_ (i := 11) (N := some 66) (v := ?_) (a' := ?_) #[true, true, true, true, true, true, true, true, true, true, true, true, false, false] rfl rfl (any_of HT_.out (by kernel_rfl)) (fun _ _ _ h => h) (Or.inl ⟨by rfl, ?_⟩) ?_ ?_
                                  rotate_left
                                  · intro w'
                                    go_simp
                                    with_reducible rfl
                                  rotate_left
                                  · simp only [Act.put, List.setIfInBounds_toArray, List.set_cons_zero, List.set_cons_succ, i64_w, i32_w]
                                    rfl
                                  refine one_ (i := 12) (N := some 8) #[true, true, true, true, true, true, true, true, true, true, true, true, true, false] rfl rfl (one_of HT_.out (by kernel_rfl)) (by decide) (fun K hK => ?_)
                                  refine box_step ?hg (N := 8) ?hd (cs := #[.int .i64 0, .slice none 0 0]) (t := 62) ?hr ?_; (case hd => rfl); (case hg => rfl); (case hr => first | (go_simp; done) | (go_simp; rfl))
                                  intro gb127 hg w35 hbox hb
                                  have HS0_ := (hb.cell (World.block_lt_of_cell? _ _ (hHeld.1))).trans (hHeld.1)
                                  have HS1_ := (hb.cell (World.block_lt_of_cell? _ _ (hHeld.2.1))).trans (hHeld.2.1)
                                  have HS2_ := (hb.cell (World.block_lt_of_cell? _ _ (hHeld.2.2.1))).trans (hHeld.2.2.1)
                                  have HS3_ := (hb.cell (World.block_lt_of_cell? _ _ (hHeld.2.2.2))).trans (hHeld.2.2.2)
                                  have n0_ := Aside0.mk (Kd.R_below (by (with_reducible repeat (first | apply Kd.R_alloc | apply Kd.R_drewN | apply Kd.R_drew)); exact HO_3.out) hb)
                                  have n1_ := Aside0.mk (Kd.N_below (Kd.N_elderB (by (with_reducible repeat (first | apply Kd.N_alloc | apply Kd.N_drewN | apply Kd.N_drew)); exact HO_4.out) gb127 (Nat.le_of_eq hg.symm)) hb)
                                  have n2_ := Aside0.mk (Kd.V_below (Kd.V_elderB (by (with_reducible repeat (first | apply Kd.V_alloc | apply Kd.V_drewN | apply Kd.V_drew)); exact HL125_1.out) gb127 (Nat.le_of_eq hg.symm)) hb)
                                  have n3_ := Aside0.mk (Kd.V_below (Kd.V_elderB (by (with_reducible repeat (first | apply Kd.V_alloc | apply Kd.V_drewN | apply Kd.V_drew)); exact HL126_1.out) gb127 (Nat.le_of_eq hg.symm)) hb)
                                  have n4_ := Aside0.mk (Kd.C_below (by repeat (first | (with_reducible exact HR125_1.out) | (with_reducible refine Kd.C_alloc ?_ _) | (with_reducible refine Kd.C_drewN ?_ _) | (with_reducible refine Kd.C_drew ?_) | exact HR125_1.out)) hb)
                                  have n5_ := Aside0.mk (Kd.C_below (by repeat (first | (with_reducible exact HR126_1.out) | (with_reducible refine Kd.C_alloc ?_ _) | (with_reducible refine Kd.C_drewN ?_ _) | (with_reducible refine Kd.C_drew ?_) | exact HR126_1.out)) hb)
                                  have n6_ := Aside0.mk (below_step (by repeat (first | (with_reducible first | exact HB.out | apply below_alloc | apply pw_below_drewN | apply below_drew1) | exact HB.out)) hb)
                                  have n7_ := Aside0.mk (hbox)
                                  have n8_ := Aside0.mk ((by rw [hg]; exact (below_size (by repeat (first | (with_reducible first | exact HB.out | apply below_alloc | apply pw_below_drewN | apply below_drew1) | exact HB.out))) : w.heap.size ≤ gb127))
                                  have n9_ := Aside0.mk ((by rw [hg]; exact (below_size (by repeat (first | (with_reducible first | exact HB.out | apply below_alloc | apply pw_below_drewN | apply below_drew1) | exact HB.out))) : w.heap.size ≤ gb127))
                                  clear HO_3
                                  clear HO_4
                                  clear HL125_1
                                  clear HL126_1
                                  clear HR125_1
                                  clear HR126_1
                                  clear HB
                                  have HO_3 := n0_
                                  have HO_4 := n1_
                                  have HL125_1 := n2_
                                  have HL126_1 := n3_
                                  have HR125_1 := n4_
                                  have HR126_1 := n5_
                                  have HB := n6_
                                  have BK127 := n7_
                                  have GW127 := n8_
                                  have GE127 := n9_
                                  clear n0_ n1_ n2_ n3_ n4_ n5_ n6_ n7_ n8_ n9_
                                  clear hb hbox hg
                                  refine hK.out _ _ ⟨HS0_, HS1_, HS2_, HS3_⟩ (fun hHeld => ?_)
                                  clear hK K
                                  refine norm_ (a' := ?_) ?_ ?_
                                  rotate_left
                                  · show Act.put _ (some 8) _ = _
                                    simp only [Act.put, List.setIfInBounds_toArray, List.set_cons_zero, List.set_cons_succ, i64_w, i32_w]
                                    rfl
                                  refine one_ (i := 13) (N := none) #[true, true, true, true, true, true, true, true, true, true, true, true, true, true] rfl rfl (one_of HT_.out (by kernel_rfl)) (by decide) (fun K hK => ?_)
                                  have hs36 : w35.cell? ⟨gb127, 0, none⟩ = some (.int .i64 0) := (blk_cell BK127.out 0).trans rfl
                                  have hfs36 := blk_frozen BK127.out 0
                                  have hs37 : w35.cell? ⟨gb127, 1, none⟩ = some (.slice none 0 0) := (blk_cell BK127.out 1).trans rfl
                                  have hfs37 := blk_frozen BK127.out 1
                                  refine skip_ (w1 := ?_) (by rfl) rfl ?_ ?_
                                  rotate_left
                                  · go_simp
                                    rfl
                                  refine hK.out _ _ ⟨((cell_far (p := ⟨gb127, _, none⟩) (by first | exact Kd.own_blk (Kd.N_away HO_4.out (fun _ hk => hk.2)) | (rw [add_block]; exact Kd.own_blk (Kd.N_away HO_4.out (fun _ hk => hk.2))) | (show (Addr.add _ _).block ≠ _; rw [add_block]; exact Kd.own_blk (Kd.N_away HO_4.out (fun _ hk => hk.2))) | (dsimp only; exact Kd.own_blk (Kd.N_away HO_4.out (fun _ hk => hk.2)))) _).trans (((cell_far (p := ⟨gb127, _, none⟩) (by first | exact Kd.own_blk (Kd.N_away HO_4.out (fun _ hk => hk.2)) | (rw [add_block]; exact Kd.own_blk (Kd.N_away HO_4.out (fun _ hk => hk.2))) | (show (Addr.add _ _).block ≠ _; rw [add_block]; exact Kd.own_blk (Kd.N_away HO_4.out (fun _ hk => hk.2))) | (dsimp only; exact Kd.own_blk (Kd.N_away HO_4.out (fun _ hk => hk.2)))) _).trans (hHeld.1)))), ((cell_far (p := ⟨gb127, _, none⟩) (by first | exact Kd.own_blk (Kd.N_away HO_4.out (fun _ hk => hk.2)) | (rw [add_block]; exact Kd.own_blk (Kd.N_away HO_4.out (fun _ hk => hk.2))) | (show (Addr.add _ _).block ≠ _; rw [add_block]; exact Kd.own_blk (Kd.N_away HO_4.out (fun _ hk => hk.2))) | (dsimp only; exact Kd.own_blk (Kd.N_away HO_4.out (fun _ hk => hk.2)))) _).trans (((cell_far (p := ⟨gb127, _, none⟩) (by first | exact Kd.own_blk (Kd.N_away HO_4.out (fun _ hk => hk.2)) | (rw [add_block]; exact Kd.own_blk (Kd.N_away HO_4.out (fun _ hk => hk.2))) | (show (Addr.add _ _).block ≠ _; rw [add_block]; exact Kd.own_blk (Kd.N_away HO_4.out (fun _ hk => hk.2))) | (dsimp only; exact Kd.own_blk (Kd.N_away HO_4.out (fun _ hk => hk.2)))) _).trans (hHeld.2.1)))), ((cell_far (p := ⟨gb127, _, none⟩) (by first | exact Kd.own_blk (Kd.N_away HO_4.out (fun _ hk => hk.2)) | (rw [add_block]; exact Kd.own_blk (Kd.N_away HO_4.out (fun _ hk => hk.2))) | (show (Addr.add _ _).block ≠ _; rw [add_block]; exact Kd.own_blk (Kd.N_away HO_4.out (fun _ hk => hk.2))) | (dsimp only; exact Kd.own_blk (Kd.N_away HO_4.out (fun _ hk => hk.2)))) _).trans (((cell_far (p := ⟨gb127, _, none⟩) (by first | exact Kd.own_blk (Kd.N_away HO_4.out (fun _ hk => hk.2)) | (rw [add_block]; exact Kd.own_blk (Kd.N_away HO_4.out (fun _ hk => hk.2))) | (show (Addr.add _ _).block ≠ _; rw [add_block]; exact Kd.own_blk (Kd.N_away HO_4.out (fun _ hk => hk.2))) | (dsimp only; exact Kd.own_blk (Kd.N_away HO_4.out (fun _ hk => hk.2)))) _).trans (hHeld.2.2.1)))), ((cell_far (p := ⟨gb127, _, none⟩) (by first | exact Kd.own_blk (Kd.N_away HO_4.out (fun _ hk => hk.2)) | (rw [add_block]; exact Kd.own_blk (Kd.N_away HO_4.out (fun _ hk => hk.2))) | (show (Addr.add _ _).block ≠ _; rw [add_block]; exact Kd.own_blk (Kd.N_away HO_4.out (fun _ hk => hk.2))) | (dsimp only; exact Kd.own_blk (Kd.N_away HO_4.out (fun _ hk => hk.2)))) _).trans (((cell_far (p := ⟨gb127, _, none⟩) (by first | exact Kd.own_blk (Kd.N_away HO_4.out (fun _ hk => hk.2)) | (rw [add_block]; exact Kd.own_blk (Kd.N_away HO_4.out (fun _ hk => hk.2))) | (show (Addr.add _ _).block ≠ _; rw [add_block]; exact Kd.own_blk (Kd.N_away HO_4.out (fun _ hk => hk.2))) | (dsimp only; exact Kd.own_blk (Kd.N_away HO_4.out (fun _ hk => hk.2)))) _).trans (hHeld.2.2.2))))⟩ (fun hHeld => ?_)
                                  clear hK K
                                  refine done_ (done_of HT_.out (by kernel_rfl)) ?_
                                  try go_wp2
                                  have n0_ : Aside0 (Kd.R (Kd.int .i64) 3 ((w35.setCell ⟨gb127, 0, none⟩ (.int .i64 (wrap64 (((rd_T62 x4_3 t123).f0) + ((rd_T62 x4_3 t124).f0))))).setCell ⟨gb127, 1, none⟩ (.slice none 0 0)) w.heap.size (fun _ => True) v110 x3_3) := ⟨by (with_reducible repeat (first | apply Kd.R_alloc | apply Kd.R_drewN | apply Kd.R_drew)); exact Kd.R_mono (Kd.R_far (p := ⟨gb127, 1, none⟩) (Kd.R_far (p := ⟨gb127, 0, none⟩) (Kd.R_types HO_3.out BK127.out (by decide)) (fun _ hk => hk.2) (.int .i64 (wrap64 (((rd_T62 x4_3 t123).f0) + ((rd_T62 x4_3 t124).f0))))) (fun _ hk => hk.2) (.slice none 0 0)) (fun _ hk => trivial)⟩
                                  have n1_ : Aside0 (Kd.N k62 62 ((w35.setCell ⟨gb127, 0, none⟩ (.int .i64 (wrap64 (((rd_T62 x4_3 t123).f0) + ((rd_T62 x4_3 t124).f0))))).setCell ⟨gb127, 1, none⟩ (.slice none 0 0)) w.heap.size (fun k_ => some k_ ≠ (v110 : Value).ownBlock ∧ k_ ≠ gb127) (.slice (some ad125) x4_3.length co33) x4_3) := ⟨by (with_reducible repeat (first | apply Kd.N_alloc | apply Kd.N_drewN | apply Kd.N_drew)); exact Kd.N_mono (Kd.N_far (p := ⟨gb127, 1, none⟩) (Kd.N_far (p := ⟨gb127, 0, none⟩) (Kd.N_mono HO_4.out (fun k_ hk => (⟨hk, hk.2⟩ : _ ∧ k_ ≠ gb127))) (fun _ hk => hk.2) (.int .i64 (wrap64 (((rd_T62 x4_3 t123).f0) + ((rd_T62 x4_3 t124).f0))))) (fun _ hk => hk.2) (.slice none 0 0)) (fun _ hk => ⟨hk.1.1, hk.1.2⟩)⟩
                                  have n2_ : Aside0 (Kd.V (Kd.int .i64) 3 ((w35.setCell ⟨gb127, 0, none⟩ (.int .i64 (wrap64 (((rd_T62 x4_3 t123).f0) + ((rd_T62 x4_3 t124).f0))))).setCell ⟨gb127, 1, none⟩ (.slice none 0 0)) w.heap.size (fun k_ => some k_ ≠ (v110 : Value).ownBlock ∧ some k_ ≠ (.slice (some ad125) x4_3.length co33 : Value).ownBlock ∧ k_ ≠ gb127) (.slice A125_1 ((rd_T62 x4_3 t123).f1).length c125_1) ((rd_T62 x4_3 t123).f1)) := ⟨by (with_reducible repeat (first | apply Kd.V_alloc | apply Kd.V_drewN | apply Kd.V_drew)); exact Kd.V_mono (Kd.V_far (p := ⟨gb127, 1, none⟩) (Kd.V_far (p := ⟨gb127, 0, none⟩) (Kd.V_mono HL125_1.out (fun k_ hk => (⟨hk, hk.2⟩ : _ ∧ k_ ≠ gb127))) (fun _ hk => hk.2) (.int .i64 (wrap64 (((rd_T62 x4_3 t123).f0) + ((rd_T62 x4_3 t124).f0))))) (fun _ hk => hk.2) (.slice none 0 0)) (fun _ hk => ⟨hk.1.1.1, ⟨hk.1.1.2, hk.1.2⟩⟩)⟩
                                  have n3_ : Aside0 (Kd.V (Kd.int .i64) 3 ((w35.setCell ⟨gb127, 0, none⟩ (.int .i64 (wrap64 (((rd_T62 x4_3 t123).f0) + ((rd_T62 x4_3 t124).f0))))).setCell ⟨gb127, 1, none⟩ (.slice none 0 0)) w.heap.size (fun k_ => some k_ ≠ (v110 : Value).ownBlock ∧ some k_ ≠ (.slice (some ad125) x4_3.length co33 : Value).ownBlock ∧ k_ ≠ gb127) (.slice A126_1 ((rd_T62 x4_3 t124).f1).length c126_1) ((rd_T62 x4_3 t124).f1)) := ⟨by (with_reducible repeat (first | apply Kd.V_alloc | apply Kd.V_drewN | apply Kd.V_drew)); exact Kd.V_mono (Kd.V_far (p := ⟨gb127, 1, none⟩) (Kd.V_far (p := ⟨gb127, 0, none⟩) (Kd.V_mono HL126_1.out (fun k_ hk => (⟨hk, hk.2⟩ : _ ∧ k_ ≠ gb127))) (fun _ hk => hk.2) (.int .i64 (wrap64 (((rd_T62 x4_3 t123).f0) + ((rd_T62 x4_3 t124).f0))))) (fun _ hk => hk.2) (.slice none 0 0)) (fun _ hk => ⟨hk.1.1.1, ⟨hk.1.1.2, hk.1.2⟩⟩)⟩
                                  have n4_ : Aside0 (((w35.setCell ⟨gb127, 0, none⟩ (.int .i64 (wrap64 (((rd_T62 x4_3 t123).f0) + ((rd_T62 x4_3 t124).f0))))).setCell ⟨gb127, 1, none⟩ (.slice none 0 0)).heap[gb127]? = some (.cells #[.int .i64 (wrap64 (((rd_T62 x4_3 t123).f0) + ((rd_T62 x4_3 t124).f0))), .slice none 0 0] 62 (0, 0))) := ⟨by (with_reducible repeat (first | refine blk_drewN ?_ _ | refine blk_drew ?_ | refine blk_alloc ?_ _)); refine blk_put (cs := #[.int .i64 (wrap64 (((rd_T62 x4_3 t123).f0) + ((rd_T62 x4_3 t124).f0))), .slice none 0 0]) ?_ 1 _ rfl; (with_reducible repeat (first | refine blk_drewN ?_ _ | refine blk_drew ?_ | refine blk_alloc ?_ _)); refine blk_put (cs := #[.int .i64 0, .slice none 0 0]) ?_ 0 _ rfl; (with_reducible repeat (first | refine blk_drewN ?_ _ | refine blk_drew ?_ | refine blk_alloc ?_ _)); exact BK127.out⟩
                                  have n5_ : Aside0 (Below w.heap.size w ((w35.setCell ⟨gb127, 0, none⟩ (.int .i64 (wrap64 (((rd_T62 x4_3 t123).f0) + ((rd_T62 x4_3 t124).f0))))).setCell ⟨gb127, 1, none⟩ (.slice none 0 0))) := ⟨by repeat (first | (with_reducible first | exact HB.out | apply below_alloc | apply pw_below_drewN | apply below_drew1 | refine below_set ?_ GE127.out) | exact HB.out)⟩
                                  (try clear HO_3)
                                  (try clear HO_4)
                                  (try clear HL125_1)
                                  (try clear HL126_1)
                                  (try clear BK127)
                                  (try clear HB)
                                  generalize ((w35.setCell ⟨gb127, 0, none⟩ (.int .i64 (wrap64 (((rd_T62 x4_3 t123).f0) + ((rd_T62 x4_3 t124).f0))))).setCell ⟨gb127, 1, none⟩ (.slice none 0 0)) = w38 at n0_ n1_ n2_ n3_ n4_ n5_ ⊢
                                  have HO_3 := n0_
                                  have HO_4 := n1_
                                  have HL125_1 := n2_
                                  have HL126_1 := n3_
                                  have BK127 := n4_
                                  have HB := n5_
                                  clear n0_ n1_ n2_ n3_ n4_ n5_
                                  have n0_ := Aside0.mk (Kd.R_drew HO_3.out)
                                  have n1_ := Aside0.mk (Kd.N_drew HO_4.out)
                                  have n2_ := Aside0.mk (Kd.V_drew HL125_1.out)
                                  have n3_ := Aside0.mk (Kd.V_drew HL126_1.out)
                                  have n4_ := Aside0.mk (blk_drew BK127.out)
                                  have n5_ := Aside0.mk (below_drew1 HB.out)
                                  clear HO_3
                                  clear HO_4
                                  clear HL125_1
                                  clear HL126_1
                                  clear BK127
                                  clear HB
                                  have HO_3 := n0_
                                  have HO_4 := n1_
                                  have HL125_1 := n2_
                                  have HL126_1 := n3_
                                  have BK127 := n4_
                                  have HB := n5_
                                  clear n0_ n1_ n2_ n3_ n4_ n5_
                                  have p128 : 0 ≤ (t123 : Int) := of_decide_eq_true (by first | (with_reducible assumption) | assumption)
                                  have q128 : t123 < (x4_3.length : Int) := of_decide_eq_true (by first | (with_reducible assumption) | assumption)
                                  obtain ⟨ad128, A128_1, c128_1, e128, hx128_0, hx128_1, hl128_1, hi128_1⟩ := at_T62 (Kd.N_reads' HO_4.out).2.2 t123 p128 q128
                                  obtain rfl : ad125 = ad128 := (by injection e128)
                                  obtain ⟨ce128, hce128, hMe128, hcc128⟩ := Kd.N_get HO_4.out z62 t123 p128 (by first | exact q128 | exact of_decide_eq_true (by first | (with_reducible assumption) | assumption) | (have e_ := (Kd.N_reads' HO_4.out).1; omega))
                                  obtain ⟨ua128_1, uc128_1, rfl, ul128_1, ge128_1⟩ := k62_openF hMe128
                                  have hv128_1 := hcc128 1 _ rfl
                                  rw [add_field _ _ 1 (by omega)] at hv128_1
                                  replace hv128_1 := Option.some.inj (hv128_1.symm.trans hx128_1)
                                  injection hv128_1 with hva_ hvn_ hvc_
                                  rw [hva_] at ge128_1
                                  rw [hvc_] at ul128_1
                                  have HL128_1 := Aside0.mk (show Kd.V (Kd.int .i64) 3 _ w.heap.size _ _ ((rd_T62 x4_3 t123).f1) from Kd.V_mk ul128_1 ge128_1)
                                  clear hva_ hvn_ hvc_ ge128_1 ul128_1
                                  clear hcc128 hce128
                                  have HR128_1 := Aside0.mk hi128_1
                                  have HC128_1 := Aside0.mk hl128_1
                                  clear hi128_1 hl128_1
                                  replace p128 := eq_true p128
                                  replace q128 := eq_true q128
                                  have p132 : 0 ≤ (t124 : Int) := of_decide_eq_true (by first | (with_reducible assumption) | assumption)
                                  have q132 : t124 < (x4_3.length : Int) := of_decide_eq_true (by first | (with_reducible assumption) | assumption)
                                  obtain ⟨ad132, A132_1, c132_1, e132, hx132_0, hx132_1, hl132_1, hi132_1⟩ := at_T62 (Kd.N_reads' HO_4.out).2.2 t124 p132 q132
                                  obtain rfl : ad125 = ad132 := (by injection e132)
                                  obtain ⟨ce132, hce132, hMe132, hcc132⟩ := Kd.N_get HO_4.out z62 t124 p132 (by first | exact q132 | exact of_decide_eq_true (by first | (with_reducible assumption) | assumption) | (have e_ := (Kd.N_reads' HO_4.out).1; omega))
                                  obtain ⟨ua132_1, uc132_1, rfl, ul132_1, ge132_1⟩ := k62_openF hMe132
                                  have hv132_1 := hcc132 1 _ rfl
                                  rw [add_field _ _ 1 (by omega)] at hv132_1
                                  replace hv132_1 := Option.some.inj (hv132_1.symm.trans hx132_1)
                                  injection hv132_1 with hva_ hvn_ hvc_
                                  rw [hva_] at ge132_1
                                  rw [hvc_] at ul132_1
                                  have HL132_1 := Aside0.mk (show Kd.V (Kd.int .i64) 3 _ w.heap.size _ _ ((rd_T62 x4_3 t124).f1) from Kd.V_mk ul132_1 ge132_1)
                                  clear hva_ hvn_ hvc_ ge132_1 ul132_1
                                  clear hcc132 hce132
                                  have HR132_1 := Aside0.mk hi132_1
                                  have HC132_1 := Aside0.mk hl132_1
                                  clear hi132_1 hl132_1
                                  replace p132 := eq_true p132
                                  replace q132 := eq_true q132
                                  refine start_ (n := 16) (S := fun w' => w'.cell? ⟨gb127, 0, none⟩ = some (.int .i64 (wrap64 (((rd_T62 x4_3 t123).f0) + ((rd_T62 x4_3 t124).f0)))) ∧ w'.cell? ⟨gb127, 1, none⟩ = some (.slice none 0 0) ∧ w'.cell? (ad125.add ((t123).toNat * 2)) = some (.int .i64 ((rd_T62 x4_3 t123).f0)) ∧ w'.cell? ⟨(ad125.add ((t123).toNat * 2)).block, (ad125.add ((t123).toNat * 2)).off + 1, none⟩ = some (.slice A128_1 ((rd_T62 x4_3 t123).f1).length c128_1) ∧ w'.cell? (ad125.add ((t124).toNat * 2)) = some (.int .i64 ((rd_T62 x4_3 t124).f0)) ∧ w'.cell? ⟨(ad125.add ((t124).toNat * 2)).block, (ad125.add ((t124).toNat * 2)).off + 1, none⟩ = some (.slice A132_1 ((rd_T62 x4_3 t124).f1).length c132_1)) (ds := [13, 15]) #[false, false, false, false, false, false, false, false, false, false, false, false, false, false, false, false] (by kernel_rfl) rfl rfl ⟨(blk_cell BK127.out 0).trans rfl, (blk_cell BK127.out 1).trans rfl, hx128_0, hx128_1, hx132_0, hx132_1⟩ (fun hHeld => ?_); refine with_tabW wherryref01_lengths.tab14 wherryref01_lengths.bits14 (fun HT_ HW_ => ?_)
                                  generalize w38.drew = w39 at HO_3 HO_4 HL125_1 HL126_1 BK127 HB HL128_1 HL132_1 HR128_1 HR132_1 hx128_0 hx128_1 hx132_0 hx132_1 hHeld ⊢
                                  refine pure_ (i := 0) (N := some 67) (v := ?_) (a' := ?_) #[true, false, false, false, false, false, false, false, false, false, false, false, false, false, false, false] rfl rfl (any_of HT_.out (by kernel_rfl)) (fun _ _ _ h => h) (Or.inl ⟨by rfl, ?_⟩) ?_ ?_
                                  rotate_left
                                  · intro w'
                                    go_simp
                                    with_reducible rfl
                                  rotate_left
                                  · simp only [Act.put, List.setIfInBounds_toArray, List.set_cons_zero, List.set_cons_succ, i64_w, i32_w]
                                    rfl
                                  refine pure_ (i := 2) (N := some 69) (v := ?_) (a' := ?_) #[true, false, true, false, false, false, false, false, false, false, false, false, false, false, false, false] rfl rfl (any_of HT_.out (by kernel_rfl)) (fun _ _ _ h => h) (Or.inl ⟨by rfl, ?_⟩) ?_ ?_
                                  rotate_left
                                  · intro w'
                                    go_simp
                                    with_reducible rfl
                                  rotate_left
                                  · simp only [Act.put, List.setIfInBounds_toArray, List.set_cons_zero, List.set_cons_succ, i64_w, i32_w]
                                    rfl
                                  refine pure_ (i := 3) (N := some 70) (v := ?_) (a' := ?_) #[true, false, true, true, false, false, false, false, false, false, false, false, false, false, false, false] rfl rfl (any_of HT_.out (by kernel_rfl)) (fun _ _ _ h => h) (Or.inl ⟨by rfl, ?_⟩) ?_ ?_
                                  rotate_left
                                  · intro w'
                                    go_simp
                                    with_reducible rfl
                                  rotate_left
                                  · simp only [Act.put, List.setIfInBounds_toArray, List.set_cons_zero, List.set_cons_succ, i64_w, i32_w]
                                    rfl
                                  refine pure_ (i := 4) (N := some 71) (v := ?_) (a' := ?_) #[true, false, true, true, true, false, false, false, false, false, false, false, false, false, false, false] rfl rfl (any_of HT_.out (by kernel_rfl)) (fun _ _ _ h => h) (Or.inl ⟨by rfl, ?_⟩) ?_ ?_
                                  rotate_left
                                  · intro w'
                                    go_simp
                                    with_reducible rfl
                                  rotate_left
                                  · simp only [Act.put, List.setIfInBounds_toArray, List.set_cons_zero, List.set_cons_succ, i64_w, i32_w]
                                    rfl
                                  refine pure_ (i := 5) (N := some 72) (v := ?_) (a' := ?_) #[true, false, true, true, true, true, false, false, false, false, false, false, false, false, false, false] rfl rfl (any_of HT_.out (by kernel_rfl)) (fun _ _ _ h => h) (Or.inl ⟨by rfl, ?_⟩) ?_ ?_
                                  rotate_left
                                  · intro w'
                                    go_simp
                                    with_reducible rfl
                                  rotate_left
                                  · simp only [Act.put, List.setIfInBounds_toArray, List.set_cons_zero, List.set_cons_succ, i64_w, i32_w]
                                    rfl
                                  refine pure_ (i := 8) (N := some 75) (v := ?_) (a' := ?_) #[true, false, true, true, true, true, false, false, true, false, false, false, false, false, false, false] rfl rfl (any_of HT_.out (by kernel_rfl)) (fun _ _ _ h => h) (Or.inl ⟨by rfl, ?_⟩) ?_ ?_
                                  rotate_left
                                  · intro w'
                                    go_simp
                                    with_reducible rfl
                                  rotate_left
                                  · simp only [Act.put, List.setIfInBounds_toArray, List.set_cons_zero, List.set_cons_succ, i64_w, i32_w]
                                    rfl
                                  refine pure_ (i := 9) (N := some 76) (v := ?_) (a' := ?_) #[true, false, true, true, true, true, false, false, true, true, false, false, false, false, false, false] rfl rfl (any_of HT_.out (by kernel_rfl)) (fun _ _ _ h => h) (Or.inl ⟨by rfl, ?_⟩) ?_ ?_
                                  rotate_left
                                  · intro w'
                                    go_simp
                                    with_reducible rfl
                                  rotate_left
                                  · simp only [Act.put, List.setIfInBounds_toArray, List.set_cons_zero, List.set_cons_succ, i64_w, i32_w]
                                    rfl
                                  refine pure_ (i := 10) (N := some 77) (v := ?_) (a' := ?_) #[true, false, true, true, true, true, false, false, true, true, true, false, false, false, false, false] rfl rfl (any_of HT_.out (by kernel_rfl)) (fun _ _ _ h => h) (Or.inl ⟨by rfl, ?_⟩) ?_ ?_
                                  rotate_left
                                  · intro w'
                                    go_simp
                                    with_reducible rfl
                                  rotate_left
                                  · simp only [Act.put, List.setIfInBounds_toArray, List.set_cons_zero, List.set_cons_succ, i64_w, i32_w]
                                    rfl
                                  refine pure_ (i := 11) (N := some 78) (v := ?_) (a' := ?_) #[true, false, true, true, true, true, false, false, true, true, true, true, false, false, false, false] rfl rfl (any_of HT_.out (by kernel_rfl)) (fun _ _ _ h => h) (Or.inl ⟨by rfl, ?_⟩) ?_ ?_
                                  rotate_left
                                  · intro w'
                                    go_simp
                                    with_reducible rfl
                                  rotate_left
                                  · simp only [Act.put, List.setIfInBounds_toArray, List.set_cons_zero, List.set_cons_succ, i64_w, i32_w]
                                    rfl
                                  refine take_ (i := 1) (N := some 68) (v := ?_) (a' := ?_) #[true, true, true, true, true, true, false, false, true, true, true, true, false, false, false, false] rfl rfl (take_ofW HT_.out HW_.out (by kernel_rfl)) (fun _ _ _ h => h) (Or.inl ⟨by rfl, ?_⟩) hHeld ?_ ?_
                                  rotate_left
                                  · rintro w' ⟨s0, s1, s2, s3, s4, s5⟩
                                    go_simp
                                    with_reducible rfl
                                  rotate_left
                                  · simp only [Act.put, List.setIfInBounds_toArray, List.set_cons_zero, List.set_cons_succ, i64_w, i32_w]
                                    rfl
                                  refine take_ (i := 6) (N := some 73) (v := ?_) (a' := ?_) #[true, true, true, true, true, true, true, false, true, true, true, true, false, false, false, false] rfl rfl (take_ofW HT_.out HW_.out (by kernel_rfl)) (fun _ _ _ h => h) (Or.inl ⟨by rfl, ?_⟩) hHeld ?_ ?_
                                  rotate_left
                                  · rintro w' ⟨s0, s1, s2, s3, s4, s5⟩
                                    go_simp
                                    with_reducible rfl
                                  rotate_left
                                  · simp only [Act.put, List.setIfInBounds_toArray, List.set_cons_zero, List.set_cons_succ, i64_w, i32_w]
                                    rfl
                                  refine take_ (i := 12) (N := some 79) (v := ?_) (a' := ?_) #[true, true, true, true, true, true, true, false, true, true, true, true, true, false, false, false] rfl rfl (take_ofW HT_.out HW_.out (by kernel_rfl)) (fun _ _ _ h => h) (Or.inl ⟨by rfl, ?_⟩) hHeld ?_ ?_
                                  rotate_left
                                  · rintro w' ⟨s0, s1, s2, s3, s4, s5⟩
                                    go_simp
                                    with_reducible rfl
                                  rotate_left
                                  · simp only [Act.put, List.setIfInBounds_toArray, List.set_cons_zero, List.set_cons_succ, i64_w, i32_w]
                                    rfl
                                  refine one_ (i := 7) (N := some 74) #[true, true, true, true, true, true, true, true, true, true, true, true, true, false, false, false] rfl rfl (one_of HT_.out (by kernel_rfl)) (by decide) (fun K hK => ?_)
                                  refine Kd.R_append_rows_step (Kd.int .i64) (w0 := w) w.heap.size (by rfl) (.tmp 68) (.tmp 73) 22 3 (.int .i64 0) 8 rfl Try.underlying22 info3 rfl (by decide) (by omega) (.slice none 0 0) ([] : List Int) ((rd_T62 x4_3 t123).f1) _ _ _ (fun k_ => some k_ ≠ (v110 : Value).ownBlock) (fun _ => False) rfl rfl ?aO ?aR (fun _ _ h => h) (fun _ h => h.elim) ?aF ?aB ?aS ?aL ?_
                                  (case aR => repeat (first | exact (by repeat (first | (with_reducible exact HR128_1.out) | (with_reducible refine Kd.C_alloc ?_ _) | (with_reducible refine Kd.C_drewN ?_ _) | (with_reducible refine Kd.C_drew ?_) | exact HR128_1.out)) | (with_reducible refine Kd.C_alloc ?_ _) | (with_reducible refine Kd.C_drewN ?_ _) | (with_reducible refine Kd.C_drew ?_)))
                                  (case aB => exact (by repeat (first | (with_reducible first | exact HB.out | apply below_alloc | apply pw_below_drewN | apply below_drew1 | refine below_set ?_ GE127.out) | exact HB.out)))
                                  (case aF => exact (fun k_ hk => Kd.fresh' (Kd.R_lt (by (with_reducible repeat (first | apply Kd.R_alloc | apply Kd.R_drewN | apply Kd.R_drew)); exact HO_3.out)) k_ hk))
                                  (case aO => exact ((Kd.R_nil _ _ _ _ (fun k_ => some k_ ≠ (v110 : Value).ownBlock))))
                                  (case aS => exact (below_size (by repeat (first | (with_reducible first | exact HB.out | apply below_alloc | apply pw_below_drewN | apply below_drew1 | refine below_set ?_ GE127.out) | exact HB.out))))
                                  (case aL => have := LMc31.out; omega)
                                  intro v130 w40 ho hb hg hat
                                  rw [← Ny129.out] at ho
                                  have n0_ := Aside0.mk (Kd.R_after (Kd.R_apart_nil (by (with_reducible repeat (first | apply Kd.R_alloc | apply Kd.R_drewN | apply Kd.R_drew)); exact HO_3.out)) hg hat)
                                  have n1_ := Aside0.mk (Kd.N_afterv (Kd.N_apart_nil (by (with_reducible repeat (first | apply Kd.N_alloc | apply Kd.N_drewN | apply Kd.N_drew)); exact HO_4.out)) hg hat)
                                  have n2_ := Aside0.mk (Kd.V_afterv (Kd.V_apart_nil (by (with_reducible repeat (first | apply Kd.V_alloc | apply Kd.V_drewN | apply Kd.V_drew)); exact HL125_1.out)) hg hat)
                                  have n3_ := Aside0.mk (Kd.V_afterv (Kd.V_apart_nil (by (with_reducible repeat (first | apply Kd.V_alloc | apply Kd.V_drewN | apply Kd.V_drew)); exact HL126_1.out)) hg hat)
                                  have n4_ := Aside0.mk (blk_grown (g := gb127) (o := .cells #[.int .i64 (wrap64 (((rd_T62 x4_3 t123).f0) + ((rd_T62 x4_3 t124).f0))), .slice none 0 0] 62 (0, 0)) (by (with_reducible repeat (first | refine blk_drewN ?_ _ | refine blk_drew ?_ | refine blk_alloc ?_ _)); exact BK127.out) hg (by simp [Value.ownBlock]))
                                  have n5_ := Aside0.mk (Kd.V_afterv (Kd.V_apart_nil (by (with_reducible repeat (first | apply Kd.V_alloc | apply Kd.V_drewN | apply Kd.V_drew)); exact HL128_1.out)) hg hat)
                                  have n6_ := Aside0.mk (Kd.V_afterv (Kd.V_apart_nil (by (with_reducible repeat (first | apply Kd.V_alloc | apply Kd.V_drewN | apply Kd.V_drew)); exact HL132_1.out)) hg hat)
                                  have n7_ := Aside0.mk (hb)
                                  have n8_ := Aside0.mk (ho)
                                  clear HO_3
                                  clear HO_4
                                  clear HL125_1
                                  clear HL126_1
                                  clear BK127
                                  clear HL128_1
                                  clear HL132_1
                                  clear HB
                                  have HO_3 := n0_
                                  have HO_4 := n1_
                                  have HL125_1 := n2_
                                  have HL126_1 := n3_
                                  have BK127 := n4_
                                  have HL128_1 := n5_
                                  have HL132_1 := n6_
                                  have HB := n7_
                                  have HO131 := n8_
                                  clear n0_ n1_ n2_ n3_ n4_ n5_ n6_ n7_ n8_
                                  have hH40 := And.intro (cell_grown hg hHeld.1 (by simp [Value.ownBlock])) (And.intro (cell_grown hg hHeld.2.1 (by simp [Value.ownBlock])) (And.intro (cell_grown hg hHeld.2.2.1 (by simp [Value.ownBlock])) (And.intro (cell_grown hg hHeld.2.2.2.1 (by simp [Value.ownBlock])) (And.intro (cell_grown hg hHeld.2.2.2.2.1 (by simp [Value.ownBlock])) (cell_grown hg hHeld.2.2.2.2.2 (by simp [Value.ownBlock]))))))
                                  clear ho hb hg hat
                                  refine hK.out _ _ hH40 (fun hHeld => ?_)
                                  clear hK K
                                  refine norm_ (a' := ?_) ?_ ?_
                                  rotate_left
                                  · show Act.put _ (some 74) _ = _
                                    simp only [Act.put, List.setIfInBounds_toArray, List.set_cons_zero, List.set_cons_succ, i64_w, i32_w]
                                    rfl
                                  refine last_ (i := 13) (N := some 80) #[true, true, true, true, true, true, true, true, true, true, true, true, true, true, false, false] rfl rfl (one_of HT_.out (by kernel_rfl)) (by decide) (fun K hK => ?_)
                                  refine Kd.R_append_rows_step (Kd.int .i64) (w0 := w) w.heap.size (by rfl) (.tmp 74) (.tmp 79) 22 3 (.int .i64 0) 8 rfl Try.underlying22 info3 rfl (by decide) (by omega) v130 y129 ((rd_T62 x4_3 t124).f1) _ _ _ (fun k_ => some k_ ≠ (v110 : Value).ownBlock) (fun _ => False) rfl rfl ?aO ?aR (fun _ _ h => h) (fun _ h => h.elim) ?aF ?aB ?aS ?aL ?_
                                  (case aR => repeat (first | exact ((Kd.V_reads' (by (with_reducible repeat (first | apply Kd.V_alloc | apply Kd.V_drewN | apply Kd.V_drew)); exact HL132_1.out)).2.2) | (with_reducible refine Kd.C_alloc ?_ _) | (with_reducible refine Kd.C_drewN ?_ _) | (with_reducible refine Kd.C_drew ?_)))
                                  (case aB => exact (by repeat (first | (with_reducible first | exact HB.out | apply below_alloc | apply pw_below_drewN | apply below_drew1 | refine below_set ?_ GE127.out) | exact HB.out)))
                                  (case aF => exact (fun k_ hk => Kd.fresh' (Kd.R_lt (by (with_reducible repeat (first | apply Kd.R_alloc | apply Kd.R_drewN | apply Kd.R_drew)); exact HO_3.out)) k_ hk))
                                  (case aO => exact (by (with_reducible repeat (first | apply Kd.R_alloc | apply Kd.R_drewN | apply Kd.R_drew)); exact HO131.out))
                                  (case aS => exact (below_size (by repeat (first | (with_reducible first | exact HB.out | apply below_alloc | apply pw_below_drewN | apply below_drew1 | refine below_set ?_ GE127.out) | exact HB.out))))
                                  (case aL => have := LMc32.out; omega)
                                  intro v134 w41 ho hb hg hat
                                  rw [← Ny133.out] at ho
                                  have n0_ := Aside0.mk (Kd.R_after (ok := (fun _ => True)) (by (with_reducible repeat (first | apply Kd.R_alloc | apply Kd.R_drewN | apply Kd.R_drew)); exact HO_3.out) hg hat)
                                  have n1_ := Aside0.mk (Kd.N_afterv (ok := (fun k_ => some k_ ≠ (v110 : Value).ownBlock ∧ k_ ≠ gb127)) (by (with_reducible repeat (first | apply Kd.N_alloc | apply Kd.N_drewN | apply Kd.N_drew)); exact HO_4.out) hg hat)
                                  have n2_ := Aside0.mk (Kd.V_afterv (ok := (fun k_ => some k_ ≠ (v110 : Value).ownBlock ∧ some k_ ≠ (.slice (some ad125) x4_3.length co33 : Value).ownBlock ∧ k_ ≠ gb127)) (by (with_reducible repeat (first | apply Kd.V_alloc | apply Kd.V_drewN | apply Kd.V_drew)); exact HL125_1.out) hg hat)
                                  have n3_ := Aside0.mk (Kd.V_afterv (ok := (fun k_ => some k_ ≠ (v110 : Value).ownBlock ∧ some k_ ≠ (.slice (some ad125) x4_3.length co33 : Value).ownBlock ∧ k_ ≠ gb127)) (by (with_reducible repeat (first | apply Kd.V_alloc | apply Kd.V_drewN | apply Kd.V_drew)); exact HL126_1.out) hg hat)
                                  have n4_ := Aside0.mk (blk_grown (g := gb127) (o := .cells #[.int .i64 (wrap64 (((rd_T62 x4_3 t123).f0) + ((rd_T62 x4_3 t124).f0))), .slice none 0 0] 62 (0, 0)) (by (with_reducible repeat (first | refine blk_drewN ?_ _ | refine blk_drew ?_ | refine blk_alloc ?_ _)); exact BK127.out) hg (Kd.R_ne HO131.out BK127.out (by decide)))
                                  have n5_ := Aside0.mk (Kd.V_afterv (ok := (fun k_ => some k_ ≠ (v110 : Value).ownBlock ∧ some k_ ≠ (.slice (some ad125) x4_3.length co33 : Value).ownBlock ∧ k_ ≠ gb127)) (by (with_reducible repeat (first | apply Kd.V_alloc | apply Kd.V_drewN | apply Kd.V_drew)); exact Kd.V_mono HL128_1.out (fun _ hk => ⟨⟨hk.1.1.1, ⟨hk.1.2, hk.1.1.2⟩⟩, hk.2⟩)) hg hat)
                                  have n6_ := Aside0.mk (Kd.V_afterv (ok := (fun k_ => some k_ ≠ (v110 : Value).ownBlock ∧ some k_ ≠ (.slice (some ad125) x4_3.length co33 : Value).ownBlock ∧ k_ ≠ gb127)) (by (with_reducible repeat (first | apply Kd.V_alloc | apply Kd.V_drewN | apply Kd.V_drew)); exact Kd.V_mono HL132_1.out (fun _ hk => ⟨⟨hk.1.1.1, ⟨hk.1.2, hk.1.1.2⟩⟩, hk.2⟩)) hg hat)
                                  have n7_ := Aside0.mk (hb)
                                  have n8_ := Aside0.mk (ho)
                                  clear HO_3
                                  clear HO_4
                                  clear HL125_1
                                  clear HL126_1
                                  clear BK127
                                  clear HL128_1
                                  clear HL132_1
                                  clear HB
                                  clear HO131
                                  have HO_3 := n0_
                                  have HO_4 := n1_
                                  have HL125_1 := n2_
                                  have HL126_1 := n3_
                                  have BK127 := n4_
                                  have HL128_1 := n5_
                                  have HL132_1 := n6_
                                  have HB := n7_
                                  have HO135 := n8_
                                  clear n0_ n1_ n2_ n3_ n4_ n5_ n6_ n7_ n8_
                                  clear ho hb hg hat
                                  obtain ⟨Ao42, co42, eo42⟩ := Kd.R_slice HO135.out
                                  (first | subst eo42 | (injection eo42 with f1_ f2_ f3_; have f4_ := f1_.symm; have f5_ := f3_.symm; clear f1_ f2_ f3_; subst f4_; subst f5_))
                                  refine hK.out _ _ ?_
                                  clear hK K
                                  refine norm_ (a' := ?_) ?_ ?_
                                  rotate_left
                                  · show Act.put _ (some 80) _ = _
                                    simp only [Act.put, List.setIfInBounds_toArray, List.set_cons_zero, List.set_cons_succ, i64_w, i32_w]
                                    rfl
                                  refine pure_ (i := 14) (N := some 81) (v := ?_) (a' := ?_) #[true, true, true, true, true, true, true, true, true, true, true, true, true, true, true, false] rfl rfl (any_of HT_.out (by kernel_rfl)) (fun _ _ _ h => h) (Or.inl ⟨by rfl, ?_⟩) ?_ ?_
                                  rotate_left
                                  · intro w'
                                    go_simp
                                    with_reducible rfl
                                  rotate_left
                                  · simp only [Act.put, List.setIfInBounds_toArray, List.set_cons_zero, List.set_cons_succ, i64_w, i32_w]
                                    rfl
                                  refine last_ (i := 15) (N := none) #[true, true, true, true, true, true, true, true, true, true, true, true, true, true, true, true] rfl rfl (one_of HT_.out (by kernel_rfl)) (by decide) (fun K hK => ?_)
                                  have hs43 : w41.cell? ⟨gb127, 1, none⟩ = some (.slice none 0 0) := (blk_cell BK127.out 1).trans rfl
                                  have hfs43 := blk_frozen BK127.out 1
                                  refine skip_ (w1 := ?_) (by rfl) rfl ?_ ?_
                                  rotate_left
                                  · go_simp
                                    rfl
                                  refine hK.out _ _ ?_
                                  clear hK K
                                  refine done_ (done_of HT_.out (by kernel_rfl)) ?_
                                  try go_wp2
                                  go_loopg [9] k3 (fun kq v9 w' => ∃ (x3_4 : List Int) (x9_4 : Int), v9 = .int .i64 x9_4 ∧ Aside0 (wherryref01_lengths.l2 kq x3_4 x4_3 t123 t124 x9_4 (wrap64 (((rd_T62 x4_3 t123).f0) + ((rd_T62 x4_3 t124).f0))) y133 = some r) ∧ Aside0 (kq ≤ k3) ∧ Aside0 (Kd.R (Kd.int .i64) 3 w' w.heap.size (fun k_ => some k_ ≠ ((.slice Ao42 y133.length co42) : Value).ownBlock) v110 x3_4) ∧ Aside0 (Kd.N k62 62 w' w.heap.size (fun k_ => some k_ ≠ (v110 : Value).ownBlock ∧ some k_ ≠ ((.slice Ao42 y133.length co42) : Value).ownBlock ∧ k_ ≠ gb127) (.slice (some ad125) x4_3.length co33) x4_3) ∧ Aside0 (Kd.R (Kd.int .i64) 3 w' w.heap.size (fun k_ => some k_ ≠ (v110 : Value).ownBlock) (.slice Ao42 y133.length co42) y133) ∧ Aside0 (w'.heap[gb127]? = some (.cells #[.int .i64 (wrap64 (((rd_T62 x4_3 t123).f0) + ((rd_T62 x4_3 t124).f0))), (.slice Ao42 y133.length co42)] 62 (0, 0))) ∧ Aside0 (Below w.heap.size w w'))
                                  case atStart => exact ⟨(x3_3), (0), (by first | rfl | (simp; done) | (simp [*]; done)), H', ⟨Nat.le_refl _⟩, ⟨by (with_reducible repeat (first | apply Kd.R_alloc | apply Kd.R_drewN | apply Kd.R_drew)); exact Kd.R_mono (Kd.R_far (p := ⟨gb127, 1, none⟩) (Kd.R_types HO_3.out BK127.out (by decide)) (fun _ hk => hk.2) (.slice Ao42 y133.length co42)) (fun _ hk => hk.1.2)⟩, ⟨by (with_reducible repeat (first | apply Kd.N_alloc | apply Kd.N_drewN | apply Kd.N_drew)); exact Kd.N_mono (Kd.N_far (p := ⟨gb127, 1, none⟩) (Kd.N_mono HO_4.out (fun k_ hk => (⟨hk, hk.1.2⟩ : _ ∧ k_ ≠ gb127))) (fun _ hk => hk.2) (.slice Ao42 y133.length co42)) (fun _ hk => ⟨hk.1.1.1, ⟨hk.1.2, hk.1.1.2⟩⟩)⟩, ⟨by (with_reducible repeat (first | apply Kd.R_alloc | apply Kd.R_drewN | apply Kd.R_drew)); exact Kd.R_mono (Kd.R_far (p := ⟨gb127, 1, none⟩) (Kd.R_types HO135.out BK127.out (by decide)) (fun _ hk => hk.2) (.slice Ao42 y133.length co42)) (fun _ hk => hk.1)⟩, ⟨by (with_reducible repeat (first | refine blk_drewN ?_ _ | refine blk_drew ?_ | refine blk_alloc ?_ _)); refine blk_put (cs := #[.int .i64 (wrap64 (((rd_T62 x4_3 t123).f0) + ((rd_T62 x4_3 t124).f0))), .slice none 0 0]) ?_ 1 _ rfl; (with_reducible repeat (first | refine blk_drewN ?_ _ | refine blk_drew ?_ | refine blk_alloc ?_ _)); exact BK127.out⟩, ⟨by repeat (first | (with_reducible first | exact HB.out | apply below_alloc | apply pw_below_drewN | apply below_drew1 | refine below_set ?_ GE127.out) | exact HB.out)⟩⟩
                                  case round =>
                                    clear H'
                                    try clear c1
                                    try clear p1
                                    try clear q1
                                    try clear hx1
                                    try clear qi1
                                    try clear c2
                                    try clear p2
                                    try clear q2
                                    try clear hx2
                                    try clear hf2
                                    try clear c3
                                    try clear p6
                                    try clear p11
                                    try clear q11
                                    try clear hx11
                                    try clear c12
                                    try clear p12
                                    try clear q12
                                    try clear hx12
                                    try clear qi12
                                    try clear c13
                                    try clear p13
                                    try clear q13
                                    try clear hx13
                                    try clear c16
                                    try clear c16b0
                                    try clear c16b1
                                    try clear c17
                                    try clear c17b0
                                    try clear c17b1
                                    try clear c18
                                    try clear c18b0
                                    try clear c18b1
                                    try clear c19
                                    try clear c19b0
                                    try clear c20
                                    try clear c20b0
                                    try clear p21
                                    try clear q21
                                    try clear hx21
                                    try clear hf21
                                    try clear c24
                                    try clear c24b0
                                    try clear c24b1
                                    try clear c27
                                    try clear c27b0
                                    try clear c28
                                    try clear c28b0
                                    try clear c29
                                    try clear c29b0
                                    try clear c30
                                    try clear c30b0
                                    try clear c31
                                    try clear c32
                                    try clear c34
                                    try clear hx112_0
                                    try clear hx113_0
                                    try clear hx120_0
                                    try clear hx120_1
                                    try clear hx121_0
                                    try clear hx125_0
                                    try clear hx125_1
                                    try clear hx126_0
                                    try clear hx126_1
                                    try clear hx128_0
                                    try clear hx128_1
                                    try clear hx132_0
                                    try clear hx132_1
                                    try clear hx21_0
                                    try clear p1
                                    try clear p11
                                    try clear p112
                                    try clear p113
                                    try clear p12
                                    try clear p120
                                    try clear p121
                                    try clear p125
                                    try clear p126
                                    try clear p128
                                    try clear p132
                                    try clear p2
                                    try clear p21
                                    try clear p6
                                    try clear q1
                                    try clear q11
                                    try clear q112
                                    try clear q113
                                    try clear q12
                                    try clear q120
                                    try clear q121
                                    try clear q125
                                    try clear q126
                                    try clear q128
                                    try clear q132
                                    try clear q2
                                    try clear q21
                                    obtain ⟨x3_4, x9_4, rfl, HA, HK4, HO_3, HO_4, HO_128001, BK127, HB⟩ := hrel
                                    cases gk with
                                    | zero => exact absurd HA.out (by simp [wherryref01_lengths.l2])
                                    | succ k4 =>
                                      have H := HA.out
                                      clear HA
                                      simp only [wherryref01_lengths.l2] at H
                                      by_cases c44 : x9_4 < (y133.length : Int)
                                      · rw [if_pos c44] at H
                                        have c44b0 : decide (x9_4 < (y133.length : Int)) = true := decide_eq_true c44
                                        clear c44
                                        by_cases c45 : 0 ≤ x9_4
                                        · rw [if_pos c45] at H
                                          have c45b0 : decide (0 ≤ x9_4) = true := decide_eq_true c45
                                          clear c45
                                          by_cases c46 : 0 ≤ (rd y133 x9_4)
                                          · rw [if_pos c46] at H
                                            have c46b0 : decide (0 ≤ (rd y133 x9_4)) = true := decide_eq_true c46
                                            clear c46
                                            by_cases c47 : (rd y133 x9_4) < (x3_4.length : Int)
                                            · rw [if_pos c47] at H
                                              have c47b0 : decide ((rd y133 x9_4) < (x3_4.length : Int)) = true := decide_eq_true c47
                                              clear c47
                                              obtain ⟨y138, hy138⟩ : ∃ y_ : List Int, y_ = (x3_4.set ((rd y133 x9_4) : Int).toNat (wrap64 ((rd x3_4 (rd y133 x9_4)) + 1))) := ⟨_, rfl⟩
                                              replace H : (wherryref01_lengths.l2 k4 y138 x4_3 t123 t124 (wrap64 (x9_4 + 1)) (wrap64 (((rd_T62 x4_3 t123).f0) + ((rd_T62 x4_3 t124).f0))) y133) = some r := by first | (rw [hy138]; with_reducible exact H) | (have H2_ := (Option.bind_some _ _).symm.trans H; rw [hy138]; with_reducible exact H2_) | (have H2_ := (Option.bind_some _ _).symm.trans H; with_reducible exact H2_) | with_reducible exact H | (rw [hy138]; exact H) | exact H
                                              have Ny138 := Aside0.mk hy138
                                              clear hy138
                                              have H' := Aside0.mk H
                                              clear H
                                              have hcz49_0 : wr.cell? ⟨gb127, 0, none⟩ = some (.int .i64 (wrap64 (((rd_T62 x4_3 t123).f0) + ((rd_T62 x4_3 t124).f0)))) := (blk_cell BK127.out 0).trans rfl
                                              have hcz49_1 : wr.cell? ⟨gb127, 1, none⟩ = some (.slice Ao42 y133.length co42) := (blk_cell BK127.out 1).trans rfl
                                              have hfz49_0 := blk_frozen BK127.out 0
                                              have hfz49_1 := blk_frozen BK127.out 1
                                              have p136 : 0 ≤ (x9_4 : Int) := of_decide_eq_true (by first | (with_reducible assumption) | assumption)
                                              have q136 : x9_4 < (y133.length : Int) := of_decide_eq_true (by first | (with_reducible assumption) | assumption)
                                              obtain ⟨ad136, e136, hx136_0⟩ := Kd.at_int (Kd.R_reads' HO_128001.out).2.2 x9_4 p136 q136
                                              cases e136
                                              replace p136 := eq_true p136
                                              replace q136 := eq_true q136
                                              obtain ⟨Ao50, co50, eo50⟩ := Kd.R_slice HO_3.out
                                              subst eo50
                                              have p137 : 0 ≤ ((rd y133 x9_4) : Int) := of_decide_eq_true (by first | (with_reducible assumption) | assumption)
                                              have q137 : (rd y133 x9_4) < (x3_4.length : Int) := of_decide_eq_true (by first | (with_reducible assumption) | assumption)
                                              obtain ⟨ad137, e137, hx137_0⟩ := Kd.at_int (Kd.R_reads' HO_3.out).2.2 (rd y133 x9_4) p137 q137
                                              cases e137
                                              replace p137 := eq_true p137
                                              replace q137 := eq_true q137
                                              have p48 : 0 ≤ ((rd y133 x9_4) : Int) := of_decide_eq_true (by first | (with_reducible assumption) | assumption)
                                              have q48 : ((rd y133 x9_4) : Int) < ((x3_4.length : Int) : Int) := of_decide_eq_true (by first | (with_reducible assumption) | assumption)
                                              obtain ⟨go48, co48, eo48, gb48, gl48, cl48, HG48⟩ := Kd.R_form HO_3.out (by omega)
                                              (first | cases eo48 | (injection eo48 with ea_ en_ ec_; (first | subst ea_ | (injection ea_ with ea_; subst ea_)); subst ec_; clear en_))
                                              have GB48 := Aside0.mk gb48
                                              have GG48 := Aside0.mk HG48
                                              clear gb48 gl48 HG48
                                              (first | simp only [add_plain] at hx137_0 | skip)
                                              obtain ⟨hx48_0, hf48_0⟩ := Kd.R_celln 0 HO_3.out ((rd y133 x9_4) : Int) p48 q48
                                              replace p48 := eq_true p48
                                              replace q48 := eq_true q48
                                              have HP51 := Kd.R_putg HO_3.out ((rd y133 x9_4) : Int) (wrap64 ((rd x3_4 (rd y133 x9_4)) + 1))
                                              go_wp2_with (first | ((with_reducible refine gate_store (t := 3) (p := 98) rfl ?_); refine store_event (t := 3) (p := 98) (v := ?vo_w52) (w1 := (wr.setCell ⟨go48, ((rd y133 x9_4) : Int).toNat, none⟩ (.int .i64 (wrap64 ((rd x3_4 (rd y133 x9_4)) + 1))))) ?hg ?ho ?hn ?hr ?_; (case ho => rfl); (case hg => rfl); (case hn => rfl); (case hr => first | (go_simp; done) | (go_simp; rfl)); intro w52 hw; have hg : wr.grownBy w52 (some go48) := (by rw [hw]; exact HP51.2); have hp_ : Kd.R (Kd.int .i64) 3 w52 w.heap.size (fun k_ => some k_ ≠ (.slice (some ad136) y133.length co42 : Value).ownBlock) (.slice (some ⟨go48, 0, none⟩) x3_4.length co50) y138 := (by rw [hw, Ny138.out]; exact HP51.1); clear HP51; have n0_ := Aside0.mk (hp_); have n1_ := Aside0.mk (Kd.N_afterv (v := (.slice (some ⟨go48, 0, none⟩) x3_4.length co50)) (v1 := (.slice (some ⟨go48, 0, none⟩) x3_4.length co50)) (ok := (fun k_ => some k_ ≠ (.slice (some ad136) y133.length co42 : Value).ownBlock ∧ k_ ≠ gb127)) (by (with_reducible repeat (first | apply Kd.N_alloc | apply Kd.N_drewN | apply Kd.N_drew)); exact Kd.N_mono HO_4.out (fun _ hk => ⟨⟨hk.2.1, hk.2.2⟩, hk.1⟩)) hg (.inl rfl)); have n2_ := Aside0.mk (Kd.R_after (v := (.slice (some ⟨go48, 0, none⟩) x3_4.length co50)) (v1 := (.slice (some ⟨go48, 0, none⟩) x3_4.length co50)) (ok := (fun _ => True)) (by (with_reducible repeat (first | apply Kd.R_alloc | apply Kd.R_drewN | apply Kd.R_drew)); exact Kd.R_mono HO_128001.out (fun _ hk => ⟨trivial, hk⟩)) hg (.inl rfl)); have n3_ := Aside0.mk (blk_grown (g := gb127) (o := .cells #[.int .i64 (wrap64 (((rd_T62 x4_3 t123).f0) + ((rd_T62 x4_3 t124).f0))), .slice (some ad136) y133.length co42] 62 (0, 0)) (by (with_reducible repeat (first | refine blk_drewN ?_ _ | refine blk_drew ?_ | refine blk_alloc ?_ _)); exact BK127.out) hg (Kd.R_ne HO_3.out BK127.out (by decide))); have n4_ := Aside0.mk ((by rw [hw]; exact below_set (HB.out) GB48.out : Below w.heap.size w w52)); clear HO_3; clear HO_4; clear HO_128001; clear BK127; clear HB; have HO_3 := n0_; have HO_4 := n1_; have HO_128001 := n2_; have BK127 := n3_; have HB := n4_; clear n0_ n1_ n2_ n3_ n4_; clear hg hw hp_))
                                              go_roundg k4
                                              case measure => have := HK1.out; have := HJ13.out; have := HK3.out; have := HK4.out; omega
                                              case rel => exact ⟨(y138), (wrap64 (x9_4 + 1)), (by first | rfl | (simp; done) | (simp [*]; done)), H', ⟨by have := HK1.out; have := HJ13.out; have := HK3.out; have := HK4.out; omega⟩, ⟨by (with_reducible repeat (first | apply Kd.R_alloc | apply Kd.R_drewN | apply Kd.R_drew)); exact HO_3.out⟩, ⟨by (with_reducible repeat (first | apply Kd.N_alloc | apply Kd.N_drewN | apply Kd.N_drew)); exact Kd.N_mono HO_4.out (fun _ hk => ⟨hk.2, ⟨hk.1.1, hk.1.2⟩⟩)⟩, ⟨by (with_reducible repeat (first | apply Kd.R_alloc | apply Kd.R_drewN | apply Kd.R_drew)); exact Kd.R_mono HO_128001.out (fun _ hk => hk.2)⟩, ⟨by (with_reducible repeat (first | refine blk_drewN ?_ _ | refine blk_drew ?_ | refine blk_alloc ?_ _)); exact BK127.out⟩, ⟨by repeat (first | (with_reducible first | exact HB.out | apply below_alloc | apply pw_below_drewN | apply below_drew1 | refine below_set ?_ GE127.out) | exact HB.out)⟩⟩
                                            · rw [if_neg c47] at H
                                              exact absurd H (by simp)
                                          · rw [if_neg c46] at H
                                            exact absurd H (by simp)
                                        · rw [if_neg c45] at H
                                          exact absurd H (by simp)
                                      · rw [if_neg c44] at H
                                        have c44b0 : decide (x9_4 < (y133.length : Int)) = false := decide_eq_false c44
                                        clear c44
                                        have H' := Aside0.mk H
                                        clear H
                                        have hcz53_0 : wr.cell? ⟨gb127, 0, none⟩ = some (.int .i64 (wrap64 (((rd_T62 x4_3 t123).f0) + ((rd_T62 x4_3 t124).f0)))) := (blk_cell BK127.out 0).trans rfl
                                        have hcz53_1 : wr.cell? ⟨gb127, 1, none⟩ = some (.slice Ao42 y133.length co42) := (blk_cell BK127.out 1).trans rfl
                                        have hfz53_0 := blk_frozen BK127.out 0
                                        have hfz53_1 := blk_frozen BK127.out 1
                                        go_wp2
                                        go_loopg [10, 11] k4 (fun kq v10 v11 w' => ∃ (x10_5 : List (S62)) (x11_5 : Int), v11 = .int .i64 x11_5 ∧ Aside0 (wherryref01_lengths.l3 kq x3_4 x4_3 t123 t124 x10_5 x11_5 (wrap64 (((rd_T62 x4_3 t123).f0) + ((rd_T62 x4_3 t124).f0))) y133 = some r) ∧ Aside0 (kq ≤ k4) ∧ Aside0 (Kd.R (Kd.int .i64) 3 w' w.heap.size (fun k_ => some k_ ≠ ((.slice Ao42 y133.length co42) : Value).ownBlock) v110 x3_4) ∧ Aside0 (Kd.N k62 62 w' w.heap.size (fun k_ => some k_ ≠ (v110 : Value).ownBlock ∧ some k_ ≠ (v10 : Value).ownBlock ∧ some k_ ≠ ((.slice Ao42 y133.length co42) : Value).ownBlock ∧ k_ ≠ gb127) (.slice (some ad125) x4_3.length co33) x4_3) ∧ Aside0 (Kd.N k62 62 w' w.heap.size (fun k_ => some k_ ≠ (v110 : Value).ownBlock ∧ some k_ ≠ ((.slice (some ad125) x4_3.length co33) : Value).ownBlock ∧ some k_ ≠ ((.slice Ao42 y133.length co42) : Value).ownBlock ∧ k_ ≠ gb127) v10 x10_5) ∧ Aside0 (Kd.R (Kd.int .i64) 3 w' w.heap.size (fun k_ => some k_ ≠ (v110 : Value).ownBlock) (.slice Ao42 y133.length co42) y133) ∧ Aside0 (w'.heap[gb127]? = some (.cells #[.int .i64 (wrap64 (((rd_T62 x4_3 t123).f0) + ((rd_T62 x4_3 t124).f0))), (.slice Ao42 y133.length co42)] 62 (0, 0))) ∧ Aside0 (Below w.heap.size w w'))
                                        case atStart => exact ⟨(([] : List (S62))), (0), (by first | rfl | (simp; done) | (simp [*]; done)), H', ⟨Nat.le_refl _⟩, ⟨by (with_reducible repeat (first | apply Kd.R_alloc | apply Kd.R_drewN | apply Kd.R_drew)); exact HO_3.out⟩, ⟨by (with_reducible repeat (first | apply Kd.N_alloc | apply Kd.N_drewN | apply Kd.N_drew)); exact Kd.N_mono HO_4.out (fun _ hk => ⟨hk.1, ⟨(by simp [Value.ownBlock]), ⟨hk.2.1, hk.2.2⟩⟩⟩)⟩, ⟨by first | exact Kd.S_nil _ _ _ _ _ | exact Kd.N_nil _ _ _ _ _ | exact Kd.V_nil _ _ _ _ _ | exact Kd.Q_nil _ _ _ _ _ | exact Kd.R_nil _ _ _ _ _⟩, ⟨by (with_reducible repeat (first | apply Kd.R_alloc | apply Kd.R_drewN | apply Kd.R_drew)); exact HO_128001.out⟩, ⟨by (with_reducible repeat (first | refine blk_drewN ?_ _ | refine blk_drew ?_ | refine blk_alloc ?_ _)); exact BK127.out⟩, ⟨by repeat (first | (with_reducible first | exact HB.out | apply below_alloc | apply pw_below_drewN | apply below_drew1 | refine below_set ?_ GE127.out) | exact HB.out)⟩⟩
                                        case round =>
                                          clear H'
                                          try clear c1
                                          try clear p1
                                          try clear q1
                                          try clear hx1
                                          try clear qi1
                                          try clear c2
                                          try clear p2
                                          try clear q2
                                          try clear hx2
                                          try clear hf2
                                          try clear c3
                                          try clear c4
                                          try clear p4
                                          try clear q4
                                          try clear hx4
                                          try clear hf4
                                          try clear p6
                                          try clear p11
                                          try clear q11
                                          try clear hx11
                                          try clear c12
                                          try clear p12
                                          try clear q12
                                          try clear hx12
                                          try clear qi12
                                          try clear c13
                                          try clear p13
                                          try clear q13
                                          try clear hx13
                                          try clear c16
                                          try clear c16b0
                                          try clear c16b1
                                          try clear c17
                                          try clear c17b0
                                          try clear c17b1
                                          try clear c18
                                          try clear c18b0
                                          try clear c18b1
                                          try clear c19
                                          try clear c19b0
                                          try clear c20
                                          try clear c20b0
                                          try clear p21
                                          try clear q21
                                          try clear hx21
                                          try clear hf21
                                          try clear c24
                                          try clear c24b0
                                          try clear c24b1
                                          try clear c27
                                          try clear c27b0
                                          try clear c28
                                          try clear c28b0
                                          try clear c29
                                          try clear c29b0
                                          try clear c30
                                          try clear c30b0
                                          try clear c31
                                          try clear c32
                                          try clear c34
                                          try clear c44
                                          try clear c44b0
                                          try clear c45
                                          try clear c45b0
                                          try clear c46
                                          try clear c46b0
                                          try clear c47
                                          try clear c47b0
                                          try clear p48
                                          try clear q48
                                          try clear hx48
                                          try clear hf48
                                          try clear hcz49_0
                                          try clear hcz49_1
                                          try clear hcz53_0
                                          try clear hcz53_1
                                          try clear hfz49_0
                                          try clear hfz49_1
                                          try clear hfz53_0
                                          try clear hfz53_1
                                          try clear hx112_0
                                          try clear hx113_0
                                          try clear hx120_0
                                          try clear hx120_1
                                          try clear hx121_0
                                          try clear hx125_0
                                          try clear hx125_1
                                          try clear hx126_0
                                          try clear hx126_1
                                          try clear hx128_0
                                          try clear hx128_1
                                          try clear hx132_0
                                          try clear hx132_1
                                          try clear hx136_0
                                          try clear hx137_0
                                          try clear hx21_0
                                          try clear hx48_0
                                          try clear p1
                                          try clear p11
                                          try clear p112
                                          try clear p113
                                          try clear p12
                                          try clear p120
                                          try clear p121
                                          try clear p125
                                          try clear p126
                                          try clear p128
                                          try clear p13
                                          try clear p132
                                          try clear p136
                                          try clear p137
                                          try clear p2
                                          try clear p21
                                          try clear p48
                                          try clear p6
                                          try clear q1
                                          try clear q11
                                          try clear q112
                                          try clear q113
                                          try clear q12
                                          try clear q120
                                          try clear q121
                                          try clear q125
                                          try clear q126
                                          try clear q128
                                          try clear q13
                                          try clear q132
                                          try clear q136
                                          try clear q137
                                          try clear q2
                                          try clear q21
                                          try clear q48
                                          obtain ⟨x10_5, x11_5, rfl, HA, HK5, HO_3, HO_4, HO_10, HO_128001, BK127, HB⟩ := hrel
                                          cases gk with
                                          | zero => exact absurd HA.out (by simp [wherryref01_lengths.l3])
                                          | succ k5 =>
                                            have H := HA.out
                                            clear HA
                                            simp only [wherryref01_lengths.l3] at H
                                            by_cases c54 : x11_5 < (x4_3.length : Int)
                                            · rw [if_pos c54] at H
                                              have c54b0 : decide (x11_5 < (x4_3.length : Int)) = true := decide_eq_true c54
                                              clear c54
                                              by_cases c55 : x11_5 = t123
                                              · rw [if_pos c55] at H
                                                have c55b0 : (x11_5 == t123) = true := beq_iff_eq.mpr c55
                                                have c55b1 : (x11_5 != t123) = false := bne_eq_false_iff_eq.mpr c55
                                                clear c55
                                                have H' := Aside0.mk H
                                                clear H
                                                go_wp2
                                                go_roundg k5
                                                case measure => have := HK1.out; have := HJ13.out; have := HK3.out; have := HK4.out; have := HK5.out; omega
                                                case rel => exact ⟨(x10_5), (wrap64 (x11_5 + 1)), (by first | rfl | (simp; done) | (simp [*]; done)), H', ⟨by have := HK1.out; have := HJ13.out; have := HK3.out; have := HK4.out; have := HK5.out; omega⟩, ⟨by (with_reducible repeat (first | apply Kd.R_alloc | apply Kd.R_drewN | apply Kd.R_drew)); exact HO_3.out⟩, ⟨by (with_reducible repeat (first | apply Kd.N_alloc | apply Kd.N_drewN | apply Kd.N_drew)); exact HO_4.out⟩, ⟨by (with_reducible repeat (first | apply Kd.N_alloc | apply Kd.N_drewN | apply Kd.N_drew)); exact HO_10.out⟩, ⟨by (with_reducible repeat (first | apply Kd.R_alloc | apply Kd.R_drewN | apply Kd.R_drew)); exact HO_128001.out⟩, ⟨by (with_reducible repeat (first | refine blk_drewN ?_ _ | refine blk_drew ?_ | refine blk_alloc ?_ _)); exact BK127.out⟩, ⟨by repeat (first | (with_reducible first | exact HB.out | apply below_alloc | apply pw_below_drewN | apply below_drew1 | refine below_set ?_ GE127.out) | exact HB.out)⟩⟩
                                              · rw [if_neg c55] at H
                                                have c55b0 : (x11_5 == t123) = false := beq_eq_false_iff_ne.mpr c55
                                                have c55b1 : (x11_5 != t123) = true := bne_iff_ne.mpr c55
                                                by_cases c56 : x11_5 = t124
                                                · rw [if_pos c56] at H
                                                  have c56b0 : (x11_5 == t124) = true := beq_iff_eq.mpr c56
                                                  have c56b1 : (x11_5 != t124) = false := bne_eq_false_iff_eq.mpr c56
                                                  clear c56
                                                  have H' := Aside0.mk H
                                                  clear H
                                                  go_wp2
                                                  go_roundg k5
                                                  case measure => have := HK1.out; have := HJ13.out; have := HK3.out; have := HK4.out; have := HK5.out; omega
                                                  case rel => exact ⟨(x10_5), (wrap64 (x11_5 + 1)), (by first | rfl | (simp; done) | (simp [*]; done)), H', ⟨by have := HK1.out; have := HJ13.out; have := HK3.out; have := HK4.out; have := HK5.out; omega⟩, ⟨by (with_reducible repeat (first | apply Kd.R_alloc | apply Kd.R_drewN | apply Kd.R_drew)); exact HO_3.out⟩, ⟨by (with_reducible repeat (first | apply Kd.N_alloc | apply Kd.N_drewN | apply Kd.N_drew)); exact HO_4.out⟩, ⟨by (with_reducible repeat (first | apply Kd.N_alloc | apply Kd.N_drewN | apply Kd.N_drew)); exact HO_10.out⟩, ⟨by (with_reducible repeat (first | apply Kd.R_alloc | apply Kd.R_drewN | apply Kd.R_drew)); exact HO_128001.out⟩, ⟨by (with_reducible repeat (first | refine blk_drewN ?_ _ | refine blk_drew ?_ | refine blk_alloc ?_ _)); exact BK127.out⟩, ⟨by repeat (first | (with_reducible first | exact HB.out | apply below_alloc | apply pw_below_drewN | apply below_drew1 | refine below_set ?_ GE127.out) | exact HB.out)⟩⟩
                                                · rw [if_neg c56] at H
                                                  have c56b0 : (x11_5 == t124) = false := beq_eq_false_iff_ne.mpr c56
                                                  have c56b1 : (x11_5 != t124) = true := bne_iff_ne.mpr c56
                                                  by_cases c57 : 0 ≤ x11_5
                                                  · rw [if_pos c57] at H
                                                    have c57b0 : decide (0 ≤ x11_5) = true := decide_eq_true c57
                                                    clear c57
                                                    by_cases c58 : x10_5.length < 4398046511104
                                                    · rw [if_pos c58] at H
                                                      have LMc58 := Aside0.mk c58
                                                      clear c58
                                                      obtain ⟨y140, hy140⟩ : ∃ y_ : List (S62), y_ = (x10_5 ++ [(⟨(rd_T62 x4_3 x11_5).f0, (rd_T62 x4_3 x11_5).f1⟩ : S62)]) := ⟨_, rfl⟩
                                                      replace H : (wherryref01_lengths.l3 k5 x3_4 x4_3 t123 t124 y140 (wrap64 (x11_5 + 1)) (wrap64 (((rd_T62 x4_3 t123).f0) + ((rd_T62 x4_3 t124).f0))) y133) = some r := by first | (rw [hy140]; with_reducible exact H) | (have H2_ := (Option.bind_some _ _).symm.trans H; rw [hy140]; with_reducible exact H2_) | (have H2_ := (Option.bind_some _ _).symm.trans H; with_reducible exact H2_) | with_reducible exact H | (rw [hy140]; exact H) | exact H
                                                      have Ny140 := Aside0.mk hy140
                                                      clear hy140
                                                      have H' := Aside0.mk H
                                                      clear H
                                                      have p139 : 0 ≤ (x11_5 : Int) := of_decide_eq_true (by first | (with_reducible assumption) | assumption)
                                                      have q139 : x11_5 < (x4_3.length : Int) := of_decide_eq_true (by first | (with_reducible assumption) | assumption)
                                                      obtain ⟨ad139, A139_1, c139_1, e139, hx139_0, hx139_1, hl139_1, hi139_1⟩ := at_T62 (Kd.N_reads' HO_4.out).2.2 x11_5 p139 q139
                                                      obtain rfl : ad125 = ad139 := (by injection e139)
                                                      obtain ⟨ce139, hce139, hMe139, hcc139⟩ := Kd.N_get HO_4.out z62 x11_5 p139 (by first | exact q139 | exact of_decide_eq_true (by first | (with_reducible assumption) | assumption) | (have e_ := (Kd.N_reads' HO_4.out).1; omega))
                                                      obtain ⟨ua139_1, uc139_1, rfl, ul139_1, ge139_1⟩ := k62_openF hMe139
                                                      have hv139_1 := hcc139 1 _ rfl
                                                      rw [add_field _ _ 1 (by omega)] at hv139_1
                                                      replace hv139_1 := Option.some.inj (hv139_1.symm.trans hx139_1)
                                                      injection hv139_1 with hva_ hvn_ hvc_
                                                      rw [hva_] at ge139_1
                                                      rw [hvc_] at ul139_1
                                                      have HL139_1 := Aside0.mk (show Kd.V (Kd.int .i64) 3 _ w.heap.size _ _ ((rd_T62 x4_3 x11_5).f1) from Kd.V_mk ul139_1 ge139_1)
                                                      clear hva_ hvn_ hvc_ ge139_1 ul139_1
                                                      clear hcc139 hce139
                                                      have HR139_1 := Aside0.mk hi139_1
                                                      have HC139_1 := Aside0.mk hl139_1
                                                      clear hi139_1 hl139_1
                                                      replace p139 := eq_true p139
                                                      replace q139 := eq_true q139
                                                      go_wp2_with (first | ((with_reducible refine gate_builtin (b := .append) (xs := #[.tmp 113, .tmp 118]) rfl ?_); at_builtin; refine Kd.N_append k62 (w0 := w) w.heap.size rfl (.tmp 113) (.tmp 118) 60 62 (.agg #[(.int .i64 0), (.slice none 0 0)]) 32 rfl Try.underlying60 info62 rfl (by decide) (by omega) u10 x10_5 (⟨(rd_T62 x4_3 x11_5).f0, (rd_T62 x4_3 x11_5).f1⟩ : S62) [.int .i64 ((rd_T62 x4_3 x11_5).f0), .slice A139_1 ((rd_T62 x4_3 x11_5).f1).length c139_1] (fun k_ => some k_ ≠ (v110 : Value).ownBlock ∧ some k_ ≠ (.slice (some ad125) x4_3.length co33 : Value).ownBlock ∧ some k_ ≠ (.slice Ao42 y133.length co42 : Value).ownBlock ∧ k_ ≠ gb127) (fun k_ => ((fun k_ => some k_ ≠ (v110 : Value).ownBlock ∧ some k_ ≠ (.slice (some ad125) x4_3.length co33 : Value).ownBlock ∧ some k_ ≠ (.slice Ao42 y133.length co42 : Value).ownBlock ∧ k_ ≠ gb127)) k_ ∧ some k_ ≠ (u10 : Value).ownBlock) rfl rfl ?aP (fun _ hk => hk) ?aF ?aO ?aB ?aS ?aL ?_; (case aP => exact (k62_mkF _ _ (⟨(rd_T62 x4_3 x11_5).f0, (rd_T62 x4_3 x11_5).f1⟩ : S62) (Kd.V_reads' (Kd.V_mono (ok' := (fun k_ => ((fun k_ => some k_ ≠ (v110 : Value).ownBlock ∧ some k_ ≠ (.slice (some ad125) x4_3.length co33 : Value).ownBlock ∧ some k_ ≠ (.slice Ao42 y133.length co42 : Value).ownBlock ∧ k_ ≠ gb127)) k_ ∧ some k_ ≠ (u10 : Value).ownBlock)) (HL139_1.out) (fun k_ hk => ⟨⟨hk.1.1, ⟨hk.2, ⟨hk.1.2.2.1, hk.1.2.2.2⟩⟩⟩, hk.1.2.1⟩))).2.1 (Kd.V_F (Kd.V_mono (ok' := (fun k_ => ((fun k_ => some k_ ≠ (v110 : Value).ownBlock ∧ some k_ ≠ (.slice (some ad125) x4_3.length co33 : Value).ownBlock ∧ some k_ ≠ (.slice Ao42 y133.length co42 : Value).ownBlock ∧ k_ ≠ gb127)) k_ ∧ some k_ ≠ (u10 : Value).ownBlock)) (HL139_1.out) (fun k_ hk => ⟨⟨hk.1.1, ⟨hk.2, ⟨hk.1.2.2.1, hk.1.2.2.2⟩⟩⟩, hk.1.2.1⟩))))); (case aB => exact (by repeat (first | (with_reducible first | exact HB.out | apply below_alloc | apply pw_below_drewN | apply below_drew1 | refine below_set ?_ GE127.out) | exact HB.out))); (case aF => exact (fun k_ hk => ⟨Kd.fresh' (Kd.R_lt (by (with_reducible repeat (first | apply Kd.R_alloc | apply Kd.R_drewN | apply Kd.R_drew)); exact HO_3.out)) k_ hk, Kd.fresh' (Kd.N_lt (by (with_reducible repeat (first | apply Kd.N_alloc | apply Kd.N_drewN | apply Kd.N_drew)); exact HO_4.out)) k_ hk, Kd.fresh' (Kd.R_lt (by (with_reducible repeat (first | apply Kd.R_alloc | apply Kd.R_drewN | apply Kd.R_drew)); exact HO_128001.out)) k_ hk, Kd.freshB (g := gb127) (o := .cells #[.int .i64 (wrap64 (((rd_T62 x4_3 t123).f0) + ((rd_T62 x4_3 t124).f0))), .slice Ao42 y133.length co42] 62 (0, 0)) (by (with_reducible repeat (first | refine blk_drewN ?_ _ | refine blk_drew ?_ | refine blk_alloc ?_ _)); exact BK127.out) k_ hk⟩)); (case aO => exact (by (with_reducible repeat (first | apply Kd.N_alloc | apply Kd.N_drewN | apply Kd.N_drew)); exact HO_10.out)); (case aS => exact (below_size (by repeat (first | (with_reducible first | exact HB.out | apply below_alloc | apply pw_below_drewN | apply below_drew1 | refine below_set ?_ GE127.out) | exact HB.out)))); (case aL => have := LMc58.out; omega); intro v141 w59 ho hb hg hat; rw [← Ny140.out] at ho; have n0_ := Aside0.mk (Kd.R_over' (by (with_reducible repeat (first | apply Kd.R_alloc | apply Kd.R_drewN | apply Kd.R_drew)); exact HO_3.out) (Kd.N_typed (by (with_reducible repeat (first | apply Kd.N_alloc | apply Kd.N_drewN | apply Kd.N_drew)); exact HO_10.out)) (by decide) hg); have n1_ := Aside0.mk (Kd.N_afterv (ok := (fun k_ => some k_ ≠ (v110 : Value).ownBlock ∧ some k_ ≠ (.slice Ao42 y133.length co42 : Value).ownBlock ∧ k_ ≠ gb127)) (by (with_reducible repeat (first | apply Kd.N_alloc | apply Kd.N_drewN | apply Kd.N_drew)); exact Kd.N_mono HO_4.out (fun _ hk => ⟨⟨hk.1, ⟨hk.2.2.1, hk.2.2.2⟩⟩, hk.2.1⟩)) hg hat); have n2_ := Aside0.mk (Kd.R_over' (by (with_reducible repeat (first | apply Kd.R_alloc | apply Kd.R_drewN | apply Kd.R_drew)); exact HO_128001.out) (Kd.N_typed (by (with_reducible repeat (first | apply Kd.N_alloc | apply Kd.N_drewN | apply Kd.N_drew)); exact HO_10.out)) (by decide) hg); have n3_ := Aside0.mk (blk_grown (g := gb127) (o := .cells #[.int .i64 (wrap64 (((rd_T62 x4_3 t123).f0) + ((rd_T62 x4_3 t124).f0))), .slice Ao42 y133.length co42] 62 (0, 0)) (by (with_reducible repeat (first | refine blk_drewN ?_ _ | refine blk_drew ?_ | refine blk_alloc ?_ _)); exact BK127.out) hg (Kd.N_away HO_10.out (fun _ hk => hk.2.2.2))); have n4_ := Aside0.mk (Kd.V_afterv (ok := (fun k_ => some k_ ≠ (v110 : Value).ownBlock ∧ some k_ ≠ (.slice (some ad125) x4_3.length co33 : Value).ownBlock ∧ some k_ ≠ (.slice Ao42 y133.length co42 : Value).ownBlock ∧ k_ ≠ gb127)) (by (with_reducible repeat (first | apply Kd.V_alloc | apply Kd.V_drewN | apply Kd.V_drew)); exact Kd.V_mono HL139_1.out (fun _ hk => ⟨⟨hk.1.1, ⟨hk.2, ⟨hk.1.2.2.1, hk.1.2.2.2⟩⟩⟩, hk.1.2.1⟩)) hg hat); have n5_ := Aside0.mk (hb); have n6_ := Aside0.mk (ho); clear HO_3; clear HO_4; clear HO_128001; clear BK127; clear HL139_1; clear HB; clear HO_10; have HO_3 := n0_; have HO_4 := n1_; have HO_128001 := n2_; have BK127 := n3_; have HL139_1 := n4_; have HB := n5_; have HO142 := n6_; clear n0_ n1_ n2_ n3_ n4_ n5_ n6_; clear ho hb hg hat))
                                                      go_roundg k5
                                                      case measure => have := HK1.out; have := HJ13.out; have := HK3.out; have := HK4.out; have := HK5.out; omega
                                                      case rel => exact ⟨(y140), (wrap64 (x11_5 + 1)), (by first | rfl | (simp; done) | (simp [*]; done)), H', ⟨by have := HK1.out; have := HJ13.out; have := HK3.out; have := HK4.out; have := HK5.out; omega⟩, ⟨by (with_reducible repeat (first | apply Kd.R_alloc | apply Kd.R_drewN | apply Kd.R_drew)); exact HO_3.out⟩, ⟨by (with_reducible repeat (first | apply Kd.N_alloc | apply Kd.N_drewN | apply Kd.N_drew)); exact Kd.N_mono HO_4.out (fun _ hk => ⟨hk.1.1, ⟨hk.2, ⟨hk.1.2.1, hk.1.2.2⟩⟩⟩)⟩, ⟨by (with_reducible repeat (first | apply Kd.N_alloc | apply Kd.N_drewN | apply Kd.N_drew)); exact HO142.out⟩, ⟨by (with_reducible repeat (first | apply Kd.R_alloc | apply Kd.R_drewN | apply Kd.R_drew)); exact HO_128001.out⟩, ⟨by (with_reducible repeat (first | refine blk_drewN ?_ _ | refine blk_drew ?_ | refine blk_alloc ?_ _)); exact BK127.out⟩, ⟨by repeat (first | (with_reducible first | exact HB.out | apply below_alloc | apply pw_below_drewN | apply below_drew1 | refine below_set ?_ GE127.out) | exact HB.out)⟩⟩
                                                    · rw [if_neg c58] at H
                                                      exact absurd H (by simp)
                                                  · rw [if_neg c57] at H
                                                    exact absurd H (by simp)
                                            · rw [if_neg c54] at H
                                              have c54b0 : decide (x11_5 < (x4_3.length : Int)) = false := decide_eq_false c54
                                              clear c54
                                              by_cases c60 : x10_5.length < 4398046511104
                                              · rw [if_pos c60] at H
                                                have LMc60 := Aside0.mk c60
                                                clear c60
                                                obtain ⟨y143, hy143⟩ : ∃ y_ : List (S62), y_ = (x10_5 ++ [(⟨(wrap64 (((rd_T62 x4_3 t123).f0) + ((rd_T62 x4_3 t124).f0))), y133⟩ : S62)]) := ⟨_, rfl⟩
                                                replace H : (wherryref01_lengths.l1 k5 x3_4 y143) = some r := by first | (rw [hy143]; with_reducible exact H) | (have H2_ := (Option.bind_some _ _).symm.trans H; rw [hy143]; with_reducible exact H2_) | (have H2_ := (Option.bind_some _ _).symm.trans H; with_reducible exact H2_) | with_reducible exact H | (rw [hy143]; exact H) | exact H
                                                have Ny143 := Aside0.mk hy143
                                                clear hy143
                                                have H' := Aside0.mk H
                                                clear H
                                                have hcz61_0 : wr.cell? ⟨gb127, 0, none⟩ = some (.int .i64 (wrap64 (((rd_T62 x4_3 t123).f0) + ((rd_T62 x4_3 t124).f0)))) := (blk_cell BK127.out 0).trans rfl
                                                have hcz61_1 : wr.cell? ⟨gb127, 1, none⟩ = some (.slice Ao42 y133.length co42) := (blk_cell BK127.out 1).trans rfl
                                                have hfz61_0 := blk_frozen BK127.out 0
                                                have hfz61_1 := blk_frozen BK127.out 1
                                                go_wp2_with (first | ((with_reducible refine gate_builtin (b := .append) (xs := #[.tmp 120, .tmp 122]) rfl ?_); at_builtin; refine Kd.N_append k62 (w0 := w) w.heap.size rfl (.tmp 120) (.tmp 122) 60 62 (.agg #[(.int .i64 0), (.slice none 0 0)]) 32 rfl Try.underlying60 info62 rfl (by decide) (by omega) u10 x10_5 (⟨(wrap64 (((rd_T62 x4_3 t123).f0) + ((rd_T62 x4_3 t124).f0))), y133⟩ : S62) [.int .i64 (wrap64 (((rd_T62 x4_3 t123).f0) + ((rd_T62 x4_3 t124).f0))), .slice Ao42 y133.length co42] (fun k_ => some k_ ≠ (v110 : Value).ownBlock ∧ some k_ ≠ (.slice (some ad125) x4_3.length co33 : Value).ownBlock ∧ k_ ≠ gb127) (fun k_ => ((fun k_ => some k_ ≠ (v110 : Value).ownBlock ∧ some k_ ≠ (.slice (some ad125) x4_3.length co33 : Value).ownBlock ∧ k_ ≠ gb127)) k_ ∧ some k_ ≠ (u10 : Value).ownBlock) rfl rfl ?aP (fun _ hk => hk) ?aF ?aO ?aB ?aS ?aL ?_; (case aP => exact (k62_mkF _ _ (⟨(wrap64 (((rd_T62 x4_3 t123).f0) + ((rd_T62 x4_3 t124).f0))), y133⟩ : S62) (Kd.R_reads' (Kd.R_mono (ok' := (fun k_ => ((fun k_ => some k_ ≠ (v110 : Value).ownBlock ∧ some k_ ≠ (.slice (some ad125) x4_3.length co33 : Value).ownBlock ∧ k_ ≠ gb127)) k_ ∧ some k_ ≠ (u10 : Value).ownBlock)) (Kd.R_types (Kd.R_apart' (Kd.R_apart' (HO_128001.out) (Kd.N_typed HO_4.out) (by decide)) (Kd.N_typed HO_10.out) (by decide)) BK127.out (by decide)) (fun k_ hk => ⟨⟨hk.1.1.1, ⟨hk.1.1.2, hk.2⟩⟩, hk.1.2⟩))).2.1 (Kd.R_F (Kd.R_mono (ok' := (fun k_ => ((fun k_ => some k_ ≠ (v110 : Value).ownBlock ∧ some k_ ≠ (.slice (some ad125) x4_3.length co33 : Value).ownBlock ∧ k_ ≠ gb127)) k_ ∧ some k_ ≠ (u10 : Value).ownBlock)) (Kd.R_types (Kd.R_apart' (Kd.R_apart' (HO_128001.out) (Kd.N_typed HO_4.out) (by decide)) (Kd.N_typed HO_10.out) (by decide)) BK127.out (by decide)) (fun k_ hk => ⟨⟨hk.1.1.1, ⟨hk.1.1.2, hk.2⟩⟩, hk.1.2⟩))))); (case aB => exact (by repeat (first | (with_reducible first | exact HB.out | apply below_alloc | apply pw_below_drewN | apply below_drew1 | refine below_set ?_ GE127.out) | exact HB.out))); (case aF => exact (fun k_ hk => ⟨Kd.fresh' (Kd.R_lt (by (with_reducible repeat (first | apply Kd.R_alloc | apply Kd.R_drewN | apply Kd.R_drew)); exact HO_3.out)) k_ hk, Kd.fresh' (Kd.N_lt (by (with_reducible repeat (first | apply Kd.N_alloc | apply Kd.N_drewN | apply Kd.N_drew)); exact HO_4.out)) k_ hk, Kd.freshB (g := gb127) (o := .cells #[.int .i64 (wrap64 (((rd_T62 x4_3 t123).f0) + ((rd_T62 x4_3 t124).f0))), .slice Ao42 y133.length co42] 62 (0, 0)) (by (with_reducible repeat (first | refine blk_drewN ?_ _ | refine blk_drew ?_ | refine blk_alloc ?_ _)); exact BK127.out) k_ hk⟩)); (case aO => exact (by (with_reducible repeat (first | apply Kd.N_alloc | apply Kd.N_drewN | apply Kd.N_drew)); exact Kd.N_mono HO_10.out (fun _ hk => ⟨hk.1, ⟨hk.2.1, hk.2.2.2⟩⟩))); (case aS => exact (below_size (by repeat (first | (with_reducible first | exact HB.out | apply below_alloc | apply pw_below_drewN | apply below_drew1 | refine below_set ?_ GE127.out) | exact HB.out)))); (case aL => have := LMc60.out; omega); intro v144 w62 ho hb hg hat; rw [← Ny143.out] at ho; have n0_ := Aside0.mk (Kd.R_over' (by (with_reducible repeat (first | apply Kd.R_alloc | apply Kd.R_drewN | apply Kd.R_drew)); exact HO_3.out) (Kd.N_typed (by (with_reducible repeat (first | apply Kd.N_alloc | apply Kd.N_drewN | apply Kd.N_drew)); exact HO_10.out)) (by decide) hg); have n1_ := Aside0.mk (Kd.N_afterv (ok := (fun k_ => some k_ ≠ (v110 : Value).ownBlock ∧ some k_ ≠ (.slice Ao42 y133.length co42 : Value).ownBlock ∧ k_ ≠ gb127)) (by (with_reducible repeat (first | apply Kd.N_alloc | apply Kd.N_drewN | apply Kd.N_drew)); exact Kd.N_mono HO_4.out (fun _ hk => ⟨⟨hk.1, ⟨hk.2.2.1, hk.2.2.2⟩⟩, hk.2.1⟩)) hg hat); have n2_ := Aside0.mk (blk_grown (g := gb127) (o := .cells #[.int .i64 (wrap64 (((rd_T62 x4_3 t123).f0) + ((rd_T62 x4_3 t124).f0))), .slice Ao42 y133.length co42] 62 (0, 0)) (by (with_reducible repeat (first | refine blk_drewN ?_ _ | refine blk_drew ?_ | refine blk_alloc ?_ _)); exact BK127.out) hg (Kd.N_away HO_10.out (fun _ hk => hk.2.2.2))); have n3_ := Aside0.mk (hb); have n4_ := Aside0.mk (ho); clear HO_3; clear HO_4; clear BK127; clear HB; clear HO_10; clear HO_128001; have HO_3 := n0_; have HO_4 := n1_; have BK127 := n2_; have HB := n3_; have HO145 := n4_; clear n0_ n1_ n2_ n3_ n4_; clear ho hb hg hat))
                                                go_roundg k5
                                                case measure => have := HK1.out; have := HJ13.out; have := HK3.out; have := HK4.out; have := HK5.out; omega
                                                case rel => exact ⟨(x3_4), (y143), H', ⟨by have := HK1.out; have := HJ13.out; have := HK3.out; have := HK4.out; have := HK5.out; omega⟩, ⟨by (with_reducible repeat (first | apply Kd.R_alloc | apply Kd.R_drewN | apply Kd.R_drew)); exact Kd.R_mono HO_3.out (fun _ hk => trivial)⟩, ⟨by (with_reducible repeat (first | apply Kd.N_alloc | apply Kd.N_drewN | apply Kd.N_drew)); exact Kd.N_mono HO145.out (fun _ hk => hk.1)⟩, ⟨by repeat (first | (with_reducible first | exact HB.out | apply below_alloc | apply pw_below_drewN | apply below_drew1 | refine below_set ?_ GE127.out) | exact HB.out)⟩⟩
                                              · rw [if_neg c60] at H
                                                exact absurd H (by simp)
                                · rw [if_neg c32] at H
                                  exact absurd H (by simp)
                              · rw [if_neg c31] at H
                                exact absurd H (by simp)
                            · rw [if_neg c30] at H
                              exact absurd H (by simp)
                          · rw [if_neg c29] at H
                            exact absurd H (by simp)
                        · rw [if_neg c28] at H
                          exact absurd H (by simp)
                      · rw [if_neg c27] at H
                        exact absurd H (by simp)
                    · rw [if_neg c24] at H
                      have c24b0 : decide (1 < (x4_3.length : Int)) = false := decide_eq_false c24
                      have c24b1 : decide (1 < x4_3.length) = false := decide_eq_false (by omega)
                      clear c24
                      obtain rfl := Option.some.inj H
                      obtain ⟨Ao63, co63, eo63⟩ := Kd.N_slice HO_4.out
                      subst eo63
                      go_wp2
                      go_ret
                      exact ⟨_, by first | rfl | (simp [errW_none, errW_some] <;> rfl) | (simp [*, errW_none, errW_some] <;> rfl), by (with_reducible repeat (first | apply Kd.R_alloc | apply Kd.R_drewN | apply Kd.R_drew)); exact HO_3.out, by repeat (first | (with_reducible first | exact HB.out | apply below_alloc | apply pw_below_drewN | apply below_drew1) | exact HB.out)⟩
    · rw [if_neg c3] at H
      exact absurd H (by simp)
  · rw [if_neg c2] at H
    exact absurd H (by simp)

end Go.Proofs.Ytaoeghdpmmeaiaa.P
