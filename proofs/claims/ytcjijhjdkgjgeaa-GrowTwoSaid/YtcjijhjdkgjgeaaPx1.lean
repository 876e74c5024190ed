-- Written by a program of this session out of the translation. Lean checks it.
import Derived.Test.YtcjijhjdkgjgeaaPx0
namespace Go.Proofs.Ytcjijhjdkgjgeaa.P
open Go.RowKit Go.Proofs.YtcjijhjdkgjgeaaW.PrintWords Go.Proofs.YtcjijhjdkgjgeaaW.PrintLast Go.Proofs.YtcjijhjdkgjgeaaW.PrintMore
attribute [local go_sem] max2_int min2_int max_two min_two max_three min_three max_four min_four   -- for this text's walks alone
set_option linter.unusedVariables false
set_option linter.unusedSimpArgs false

/-! ### sym_Fixed: function 33 -/
mutual
def sym_Fixed.l0 : Nat → List Int → Int → Option (List Int × List Int)
  | 0, _, _ => none
  | k + 1, x0, x4 => if x4 < 288 then (if x4 ≥ 144 then (sym_Fixed.j1 k x0 x4 8 x4 (decide (x4 ≤ 255))) else (sym_Fixed.j1 k x0 x4 8 x4 false)) else (sym_Fixed.l1 k x0 ([] : List Int) 0)
def sym_Fixed.j1 : Nat → List Int → Int → Int → Int → Bool → Option (List Int × List Int)
  | 0, _, _, _, _, _ => none
  | k + 1, x0, x2, x3, x4, x7 => if x7 = true then (if x0.length < 17592186044416 then (sym_Fixed.l0 k (x0 ++ [9]) (wrap64 (x4 + 1))) else (none)) else (if x2 ≥ 256 then (if x2 ≤ 279 then (if x0.length < 17592186044416 then (sym_Fixed.l0 k (x0 ++ [7]) (wrap64 (x4 + 1))) else (none)) else (if x0.length < 17592186044416 then (sym_Fixed.l0 k (x0 ++ [x3]) (wrap64 (x4 + 1))) else (none))) else (if x0.length < 17592186044416 then (sym_Fixed.l0 k (x0 ++ [x3]) (wrap64 (x4 + 1))) else (none)))
def sym_Fixed.l1 : Nat → List Int → List Int → Int → Option (List Int × List Int)
  | 0, _, _, _ => none
  | k + 1, x0, x1, x26 => if x26 < 32 then (if x1.length < 17592186044416 then (sym_Fixed.l1 k x0 (x1 ++ [5]) (wrap64 (x26 + 1))) else (none)) else (some (x0, x1))
end
def sym_Fixed.f (k : Nat)  : Option (List Int × List Int) := sym_Fixed.l0 k ([] : List Int) 0
theorem sym_Fixed.mono_l : ∀ k, (∀ y0 y1, LeO (sym_Fixed.l0 k y0 y1) (sym_Fixed.l0 (k + 1) y0 y1)) ∧ (∀ y0 y1 y2 y3 y4, LeO (sym_Fixed.j1 k y0 y1 y2 y3 y4) (sym_Fixed.j1 (k + 1) y0 y1 y2 y3 y4)) ∧ (∀ y0 y1 y2, LeO (sym_Fixed.l1 k y0 y1 y2) (sym_Fixed.l1 (k + 1) y0 y1 y2))
  | 0 => ⟨fun _ _ r h => by simp [sym_Fixed.l0] at h, fun _ _ _ _ _ r h => by simp [sym_Fixed.j1] at h, fun _ _ _ r h => by simp [sym_Fixed.l1] at h⟩
  | k + 1 => by
    obtain ⟨ih0, ih1, ih2⟩ := sym_Fixed.mono_l k
    refine ⟨?_, ?_, ?_⟩
    · intro y0 y1
      unfold sym_Fixed.l0
      repeat' first
      | (with_reducible exact ih0 _ _)
      | (with_reducible exact ih1 _ _ _ _ _)
      | (with_reducible exact ih2 _ _ _)
      | (with_reducible exact LeO.refl _)
      | (with_reducible exact LeO.none _)
      | (with_reducible refine LeO.ite ?_ ?_)
      | (with_reducible refine LeO.bind ?_ (fun _ => ?_))
      | exact ih0 _ _
      | exact ih1 _ _ _ _ _
      | exact ih2 _ _ _
      | exact LeO.none _
      | refine LeO.ite ?_ ?_
      | refine LeO.bind ?_ (fun _ => ?_)
    · intro y0 y1 y2 y3 y4
      unfold sym_Fixed.j1
      repeat' first
      | (with_reducible exact ih0 _ _)
      | (with_reducible exact ih1 _ _ _ _ _)
      | (with_reducible exact ih2 _ _ _)
      | (with_reducible exact LeO.refl _)
      | (with_reducible exact LeO.none _)
      | (with_reducible refine LeO.ite ?_ ?_)
      | (with_reducible refine LeO.bind ?_ (fun _ => ?_))
      | exact ih0 _ _
      | exact ih1 _ _ _ _ _
      | exact ih2 _ _ _
      | exact LeO.none _
      | refine LeO.ite ?_ ?_
      | refine LeO.bind ?_ (fun _ => ?_)
    · intro y0 y1 y2
      unfold sym_Fixed.l1
      repeat' first
      | (with_reducible exact ih0 _ _)
      | (with_reducible exact ih1 _ _ _ _ _)
      | (with_reducible exact ih2 _ _ _)
      | (with_reducible exact LeO.refl _)
      | (with_reducible exact LeO.none _)
      | (with_reducible refine LeO.ite ?_ ?_)
      | (with_reducible refine LeO.bind ?_ (fun _ => ?_))
      | exact ih0 _ _
      | exact ih1 _ _ _ _ _
      | exact ih2 _ _ _
      | exact LeO.none _
      | refine LeO.ite ?_ ?_
      | refine LeO.bind ?_ (fun _ => ?_)
theorem sym_Fixed.mono : ∀ k, LeO (sym_Fixed.f k ) (sym_Fixed.f (k + 1) ) := by
  intro  k
  obtain ⟨ih0, ih1, ih2⟩ := sym_Fixed.mono_l k
  unfold sym_Fixed.f
  repeat' first
      | (with_reducible exact ih0 _ _)
      | (with_reducible exact ih1 _ _ _ _ _)
      | (with_reducible exact ih2 _ _ _)
      | (with_reducible exact LeO.refl _)
      | (with_reducible exact LeO.none _)
      | (with_reducible refine LeO.ite ?_ ?_)
      | (with_reducible refine LeO.bind ?_ (fun _ => ?_))
      | exact ih0 _ _
      | exact ih1 _ _ _ _ _
      | exact ih2 _ _ _
      | exact LeO.none _
      | refine LeO.ite ?_ ?_
      | refine LeO.bind ?_ (fun _ => ?_)
set_option maxHeartbeats 8000000 in
set_option maxRecDepth 100000 in
theorem sym_Fixed.calls (k : Nat)  (r1 : List Int) (r2 : List Int) (w : World) (h : sym_Fixed.f k  = some (r1, r2)) :
    Calls Try.prog 33 #[] w fun e w' => ∃ v0_ v1_ : Value, e = .returned (.tuple #[v0_, v1_]) ∧ Kd.R (Kd.int .i64) 3 w' w.heap.size (fun k_ => some k_ ≠ (v1_ : Value).ownBlock) v0_ r1 ∧ Kd.R (Kd.int .i64) 3 w' w.heap.size (fun k_ => some k_ ≠ (v0_ : Value).ownBlock) v1_ r2 ∧ Below w.heap.size w w' := by
  have HB := Aside0.mk (Below.refl w.heap.size w)
  have H : (sym_Fixed.l0 k ([] : List Int) 0) = some (r1, r2) := h
  clear h
  have H' := Aside0.mk H
  clear H
  go_enter Try.func33, Try.ntmps33
  go_wp2
  go_loopg [0, 4] k (fun kq v0 v4 w' => ∃ (x0_1 : List Int) (x4_1 : Int), v4 = .int .i64 x4_1 ∧ Aside0 (sym_Fixed.l0 kq x0_1 x4_1 = some (r1, r2)) ∧ Aside0 (kq ≤ k) ∧ Aside0 (Kd.R (Kd.int .i64) 3 w' w.heap.size (fun _ => True) v0 x0_1) ∧ Aside0 (Below w.heap.size w w'))
  case atStart => exact ⟨(([] : List Int)), (0), (by first | rfl | (simp; done) | (simp [*]; done)), H', ⟨Nat.le_refl _⟩, ⟨by first | exact Kd.R_nil _ _ _ _ _ | exact Kd.N_nil _ _ _ _ _ | exact Kd.V_nil _ _ _ _ _ | exact Kd.Q_nil _ _ _ _ _ | exact Kd.S_nil _ _ _ _ _⟩, ⟨by repeat (first | (with_reducible first | exact HB.out | apply below_alloc | apply pw_below_drewN | apply below_drew1) | exact HB.out)⟩⟩
  case round =>
    clear H'
    obtain ⟨x0_1, x4_1, rfl, HA, HK1, HO_0, HB⟩ := hrel
    cases gk with
    | zero => exact absurd HA.out (by simp [sym_Fixed.l0])
    | succ k1 =>
      have H := HA.out
      clear HA
      simp only [sym_Fixed.l0] at H
      by_cases c1 : x4_1 < 288
      · rw [if_pos c1] at H
        have c1b0 : decide (x4_1 < 288) = true := decide_eq_true c1
        clear c1
        have HC2 := Aside0.mk H
        clear H
        go_upto_region 5 with (fail)
        go_cut [7] (fun v7 wc => ∃ (kq : Nat) (x7_1 : Bool), v7 = .bool x7_1 ∧ Aside0 (sym_Fixed.j1 kq x0_1 x4_1 8 x4_1 x7_1 = some (r1, r2)) ∧ Aside0 (kq ≤ k1) ∧ Aside0 (Kd.R (Kd.int .i64) 3 wc w.heap.size (fun _ => True) u0 x0_1) ∧ Aside0 (Below w.heap.size w wc))
        case first =>
          have H := HC2.out
          clear HC2
          by_cases c3 : x4_1 ≥ 144
          · rw [if_pos c3] at H
            have c3b0 : decide (144 ≤ x4_1) = true := decide_eq_true c3
            clear c3
            (first | rw [c3b0] | (simp only [i64_w, i32_w]; rw [c3b0]) | skip)
            have H' := Aside0.mk H
            clear H
            go_wp2
            go_meet
            case rel => exact ⟨_, (decide (x4_1 ≤ 255)), (by first | rfl | (simp; done) | (simp [*]; done)), H', ⟨by have := HK1.out; first | omega | exact Nat.le_refl _⟩, ⟨by (with_reducible repeat (first | apply Kd.R_alloc | apply Kd.R_drewN | apply Kd.R_drew)); exact HO_0.out⟩, ⟨by repeat (first | (with_reducible first | exact HB.out | apply below_alloc | apply pw_below_drewN | apply below_drew1) | exact HB.out)⟩⟩
          · rw [if_neg c3] at H
            have c3b0 : decide (144 ≤ x4_1) = false := decide_eq_false c3
            clear c3
            (first | rw [c3b0] | (simp only [i64_w, i32_w]; rw [c3b0]) | skip)
            have H' := Aside0.mk H
            clear H
            go_wp2
            go_meet
            case rel => exact ⟨_, (false), (by first | rfl | (simp; done) | (simp [*]; done)), H', ⟨by have := HK1.out; first | omega | exact Nat.le_refl _⟩, ⟨by (with_reducible repeat (first | apply Kd.R_alloc | apply Kd.R_drewN | apply Kd.R_drew)); exact HO_0.out⟩, ⟨by repeat (first | (with_reducible first | exact HB.out | apply below_alloc | apply pw_below_drewN | apply below_drew1) | exact HB.out)⟩⟩
        case rest =>
          clear HC2
          try clear c1
          try clear c1b0
          try clear p2
          try clear c3
          try clear c3b0
          obtain ⟨kq, x7_1, rfl, HA, HJ1, HO_0, HB⟩ := hcut
          cases kq with
          | zero => exact absurd HA.out (by simp [sym_Fixed.j1])
          | succ kj1 =>
            have H := HA.out
            clear HA
            simp only [sym_Fixed.j1] at H
            by_cases c4 : x7_1 = true
            · subst c4
              have H1 : (if x0_1.length < 17592186044416 then (sym_Fixed.l0 kj1 (x0_1 ++ [9]) (wrap64 (x4_1 + 1))) else (none)) = some (r1, r2) := by rw [if_pos rfl] at H; exact H
              clear H
              have H := H1
              clear H1
              by_cases c5 : x0_1.length < 17592186044416
              · rw [if_pos c5] at H
                have LMc5 := Aside0.mk c5
                clear c5
                obtain ⟨y101, hy101⟩ : ∃ y_ : List Int, y_ = (x0_1 ++ [9]) := ⟨_, rfl⟩
                replace H : (sym_Fixed.l0 kj1 y101 (wrap64 (x4_1 + 1))) = some (r1, r2) := by first | (rw [hy101]; with_reducible exact H) | (have H2_ := (Option.bind_some _ _).symm.trans H; rw [hy101]; with_reducible exact H2_) | (have H2_ := (Option.bind_some _ _).symm.trans H; with_reducible exact H2_) | with_reducible exact H | (rw [hy101]; exact H) | exact H
                have Ny101 := Aside0.mk hy101
                clear hy101
                have H' := Aside0.mk H
                clear H
                go_wp2_with (first | ((with_reducible refine gate_builtin (b := .append) (xs := #[.tmp 21, .tmp 23]) rfl ?_); at_builtin; refine Kd.R_append (Kd.int .i64) (w0 := w) w.heap.size rfl (.tmp 21) (.tmp 23) 73 3 (.int .i64 0) 8 rfl Try.underlying73 info3 rfl (by decide) (by omega) u0 x0_1 9 [.int .i64 9] (fun _ => True) (fun _ => False) rfl rfl ?aP (fun _ hk => hk.elim) ?aF ?aO ?aB ?aS ?aL ?_; (case aP => exact rfl); (case aB => exact (by repeat (first | (with_reducible first | exact HB.out | apply below_alloc | apply pw_below_drewN | apply below_drew1) | exact HB.out))); (case aF => exact (fun _ _ => trivial)); (case aO => exact (by (with_reducible repeat (first | apply Kd.R_alloc | apply Kd.R_drewN | apply Kd.R_drew)); exact HO_0.out)); (case aS => exact (below_size (by repeat (first | (with_reducible first | exact HB.out | apply below_alloc | apply pw_below_drewN | apply below_drew1) | exact HB.out)))); (case aL => have := LMc5.out; omega); intro v102 w6 ho hb hg hat; rw [← Ny101.out] at ho; have n0_ := Aside0.mk (hb); have n1_ := Aside0.mk (ho); clear HB; clear HO_0; have HB := n0_; have HO103 := n1_; clear n0_ n1_; clear ho hb hg hat))
                go_roundg kj1
                case measure => have := HK1.out; have := HJ1.out; omega
                case rel => exact ⟨(y101), (wrap64 (x4_1 + 1)), (by first | rfl | (simp; done) | (simp [*]; done)), H', ⟨by have := HK1.out; have := HJ1.out; omega⟩, ⟨by (with_reducible repeat (first | apply Kd.R_alloc | apply Kd.R_drewN | apply Kd.R_drew)); exact HO103.out⟩, ⟨by repeat (first | (with_reducible first | exact HB.out | apply below_alloc | apply pw_below_drewN | apply below_drew1) | exact HB.out)⟩⟩
              · rw [if_neg c5] at H
                exact absurd H (by simp)
            · replace c4 := Bool.eq_false_iff.mpr c4
              subst c4
              have H1 : (if x4_1 ≥ 256 then (if x4_1 ≤ 279 then (if x0_1.length < 17592186044416 then (sym_Fixed.l0 kj1 (x0_1 ++ [7]) (wrap64 (x4_1 + 1))) else (none)) else (if x0_1.length < 17592186044416 then (sym_Fixed.l0 kj1 (x0_1 ++ [8]) (wrap64 (x4_1 + 1))) else (none))) else (if x0_1.length < 17592186044416 then (sym_Fixed.l0 kj1 (x0_1 ++ [8]) (wrap64 (x4_1 + 1))) else (none))) = some (r1, r2) := by rw [if_neg (show ¬ (false = true) by decide)] at H; exact H
              clear H
              have H := H1
              clear H1
              by_cases c7 : x4_1 ≥ 256
              · rw [if_pos c7] at H
                have c7b0 : decide (256 ≤ x4_1) = true := decide_eq_true c7
                clear c7
                by_cases c8 : x4_1 ≤ 279
                · rw [if_pos c8] at H
                  have c8b0 : decide (x4_1 ≤ 279) = true := decide_eq_true c8
                  clear c8
                  by_cases c9 : x0_1.length < 17592186044416
                  · rw [if_pos c9] at H
                    have LMc9 := Aside0.mk c9
                    clear c9
                    obtain ⟨y104, hy104⟩ : ∃ y_ : List Int, y_ = (x0_1 ++ [7]) := ⟨_, rfl⟩
                    replace H : (sym_Fixed.l0 kj1 y104 (wrap64 (x4_1 + 1))) = some (r1, r2) := by first | (rw [hy104]; with_reducible exact H) | (have H2_ := (Option.bind_some _ _).symm.trans H; rw [hy104]; with_reducible exact H2_) | (have H2_ := (Option.bind_some _ _).symm.trans H; with_reducible exact H2_) | with_reducible exact H | (rw [hy104]; exact H) | exact H
                    have Ny104 := Aside0.mk hy104
                    clear hy104
                    have H' := Aside0.mk H
                    clear H
                    go_wp2_with (first | ((with_reducible refine gate_builtin (b := .append) (xs := #[.tmp 21, .tmp 23]) rfl ?_); at_builtin; refine Kd.R_append (Kd.int .i64) (w0 := w) w.heap.size rfl (.tmp 21) (.tmp 23) 73 3 (.int .i64 0) 8 rfl Try.underlying73 info3 rfl (by decide) (by omega) u0 x0_1 7 [.int .i64 7] (fun _ => True) (fun _ => False) rfl rfl ?aP (fun _ hk => hk.elim) ?aF ?aO ?aB ?aS ?aL ?_; (case aP => exact rfl); (case aB => exact (by repeat (first | (with_reducible first | exact HB.out | apply below_alloc | apply pw_below_drewN | apply below_drew1) | exact HB.out))); (case aF => exact (fun _ _ => trivial)); (case aO => exact (by (with_reducible repeat (first | apply Kd.R_alloc | apply Kd.R_drewN | apply Kd.R_drew)); exact HO_0.out)); (case aS => exact (below_size (by repeat (first | (with_reducible first | exact HB.out | apply below_alloc | apply pw_below_drewN | apply below_drew1) | exact HB.out)))); (case aL => have := LMc9.out; omega); intro v105 w10 ho hb hg hat; rw [← Ny104.out] at ho; have n0_ := Aside0.mk (hb); have n1_ := Aside0.mk (ho); clear HB; clear HO_0; have HB := n0_; have HO106 := n1_; clear n0_ n1_; clear ho hb hg hat))
                    go_roundg kj1
                    case measure => have := HK1.out; have := HJ1.out; omega
                    case rel => exact ⟨(y104), (wrap64 (x4_1 + 1)), (by first | rfl | (simp; done) | (simp [*]; done)), H', ⟨by have := HK1.out; have := HJ1.out; omega⟩, ⟨by (with_reducible repeat (first | apply Kd.R_alloc | apply Kd.R_drewN | apply Kd.R_drew)); exact HO106.out⟩, ⟨by repeat (first | (with_reducible first | exact HB.out | apply below_alloc | apply pw_below_drewN | apply below_drew1) | exact HB.out)⟩⟩
                  · rw [if_neg c9] at H
                    exact absurd H (by simp)
                · rw [if_neg c8] at H
                  have c8b0 : decide (x4_1 ≤ 279) = false := decide_eq_false c8
                  clear c8
                  by_cases c11 : x0_1.length < 17592186044416
                  · rw [if_pos c11] at H
                    have LMc11 := Aside0.mk c11
                    clear c11
                    obtain ⟨y107, hy107⟩ : ∃ y_ : List Int, y_ = (x0_1 ++ [8]) := ⟨_, rfl⟩
                    replace H : (sym_Fixed.l0 kj1 y107 (wrap64 (x4_1 + 1))) = some (r1, r2) := by first | (rw [hy107]; with_reducible exact H) | (have H2_ := (Option.bind_some _ _).symm.trans H; rw [hy107]; with_reducible exact H2_) | (have H2_ := (Option.bind_some _ _).symm.trans H; with_reducible exact H2_) | with_reducible exact H | (rw [hy107]; exact H) | exact H
                    have Ny107 := Aside0.mk hy107
                    clear hy107
                    have H' := Aside0.mk H
                    clear H
                    go_wp2_with (first | ((with_reducible refine gate_builtin (b := .append) (xs := #[.tmp 21, .tmp 23]) rfl ?_); at_builtin; refine Kd.R_append (Kd.int .i64) (w0 := w) w.heap.size rfl (.tmp 21) (.tmp 23) 73 3 (.int .i64 0) 8 rfl Try.underlying73 info3 rfl (by decide) (by omega) u0 x0_1 8 [.int .i64 8] (fun _ => True) (fun _ => False) rfl rfl ?aP (fun _ hk => hk.elim) ?aF ?aO ?aB ?aS ?aL ?_; (case aP => exact rfl); (case aB => exact (by repeat (first | (with_reducible first | exact HB.out | apply below_alloc | apply pw_below_drewN | apply below_drew1) | exact HB.out))); (case aF => exact (fun _ _ => trivial)); (case aO => exact (by (with_reducible repeat (first | apply Kd.R_alloc | apply Kd.R_drewN | apply Kd.R_drew)); exact HO_0.out)); (case aS => exact (below_size (by repeat (first | (with_reducible first | exact HB.out | apply below_alloc | apply pw_below_drewN | apply below_drew1) | exact HB.out)))); (case aL => have := LMc11.out; omega); intro v108 w12 ho hb hg hat; rw [← Ny107.out] at ho; have n0_ := Aside0.mk (hb); have n1_ := Aside0.mk (ho); clear HB; clear HO_0; have HB := n0_; have HO109 := n1_; clear n0_ n1_; clear ho hb hg hat))
                    go_roundg kj1
                    case measure => have := HK1.out; have := HJ1.out; omega
                    case rel => exact ⟨(y107), (wrap64 (x4_1 + 1)), (by first | rfl | (simp; done) | (simp [*]; done)), H', ⟨by have := HK1.out; have := HJ1.out; omega⟩, ⟨by (with_reducible repeat (first | apply Kd.R_alloc | apply Kd.R_drewN | apply Kd.R_drew)); exact HO109.out⟩, ⟨by repeat (first | (with_reducible first | exact HB.out | apply below_alloc | apply pw_below_drewN | apply below_drew1) | exact HB.out)⟩⟩
                  · rw [if_neg c11] at H
                    exact absurd H (by simp)
              · rw [if_neg c7] at H
                have c7b0 : decide (256 ≤ x4_1) = false := decide_eq_false c7
                clear c7
                by_cases c13 : x0_1.length < 17592186044416
                · rw [if_pos c13] at H
                  have LMc13 := Aside0.mk c13
                  clear c13
                  obtain ⟨y110, hy110⟩ : ∃ y_ : List Int, y_ = (x0_1 ++ [8]) := ⟨_, rfl⟩
                  replace H : (sym_Fixed.l0 kj1 y110 (wrap64 (x4_1 + 1))) = some (r1, r2) := by first | (rw [hy110]; with_reducible exact H) | (have H2_ := (Option.bind_some _ _).symm.trans H; rw [hy110]; with_reducible exact H2_) | (have H2_ := (Option.bind_some _ _).symm.trans H; with_reducible exact H2_) | with_reducible exact H | (rw [hy110]; exact H) | exact H
                  have Ny110 := Aside0.mk hy110
                  clear hy110
                  have H' := Aside0.mk H
                  clear H
                  go_wp2_with (first | ((with_reducible refine gate_builtin (b := .append) (xs := #[.tmp 21, .tmp 23]) rfl ?_); at_builtin; refine Kd.R_append (Kd.int .i64) (w0 := w) w.heap.size rfl (.tmp 21) (.tmp 23) 73 3 (.int .i64 0) 8 rfl Try.underlying73 info3 rfl (by decide) (by omega) u0 x0_1 8 [.int .i64 8] (fun _ => True) (fun _ => False) rfl rfl ?aP (fun _ hk => hk.elim) ?aF ?aO ?aB ?aS ?aL ?_; (case aP => exact rfl); (case aB => exact (by repeat (first | (with_reducible first | exact HB.out | apply below_alloc | apply pw_below_drewN | apply below_drew1) | exact HB.out))); (case aF => exact (fun _ _ => trivial)); (case aO => exact (by (with_reducible repeat (first | apply Kd.R_alloc | apply Kd.R_drewN | apply Kd.R_drew)); exact HO_0.out)); (case aS => exact (below_size (by repeat (first | (with_reducible first | exact HB.out | apply below_alloc | apply pw_below_drewN | apply below_drew1) | exact HB.out)))); (case aL => have := LMc13.out; omega); intro v111 w14 ho hb hg hat; rw [← Ny110.out] at ho; have n0_ := Aside0.mk (hb); have n1_ := Aside0.mk (ho); clear HB; clear HO_0; have HB := n0_; have HO112 := n1_; clear n0_ n1_; clear ho hb hg hat))
                  go_roundg kj1
                  case measure => have := HK1.out; have := HJ1.out; omega
                  case rel => exact ⟨(y110), (wrap64 (x4_1 + 1)), (by first | rfl | (simp; done) | (simp [*]; done)), H', ⟨by have := HK1.out; have := HJ1.out; omega⟩, ⟨by (with_reducible repeat (first | apply Kd.R_alloc | apply Kd.R_drewN | apply Kd.R_drew)); exact HO112.out⟩, ⟨by repeat (first | (with_reducible first | exact HB.out | apply below_alloc | apply pw_below_drewN | apply below_drew1) | exact HB.out)⟩⟩
                · rw [if_neg c13] at H
                  exact absurd H (by simp)
      · rw [if_neg c1] at H
        have c1b0 : decide (x4_1 < 288) = false := decide_eq_false c1
        clear c1
        have H' := Aside0.mk H
        clear H
        go_wp2
        go_loopg [1, 26] k1 (fun kq v1 v26 w' => ∃ (x1_2 : List Int) (x26_2 : Int), v26 = .int .i64 x26_2 ∧ Aside0 (sym_Fixed.l1 kq x0_1 x1_2 x26_2 = some (r1, r2)) ∧ Aside0 (kq ≤ k1) ∧ Aside0 (Kd.R (Kd.int .i64) 3 w' w.heap.size (fun k_ => some k_ ≠ (v1 : Value).ownBlock) u0 x0_1) ∧ Aside0 (Kd.R (Kd.int .i64) 3 w' w.heap.size (fun k_ => some k_ ≠ (u0 : Value).ownBlock) v1 x1_2) ∧ Aside0 (Below w.heap.size w w'))
        case atStart => exact ⟨(([] : List Int)), (0), (by first | rfl | (simp; done) | (simp [*]; done)), H', ⟨Nat.le_refl _⟩, ⟨by (with_reducible repeat (first | apply Kd.R_alloc | apply Kd.R_drewN | apply Kd.R_drew)); exact Kd.R_mono HO_0.out (fun _ hk => (by simp [Value.ownBlock]))⟩, ⟨by first | exact Kd.R_nil _ _ _ _ _ | exact Kd.N_nil _ _ _ _ _ | exact Kd.V_nil _ _ _ _ _ | exact Kd.Q_nil _ _ _ _ _ | exact Kd.S_nil _ _ _ _ _⟩, ⟨by repeat (first | (with_reducible first | exact HB.out | apply below_alloc | apply pw_below_drewN | apply below_drew1) | exact HB.out)⟩⟩
        case round =>
          clear H'
          try clear c1
          try clear c1b0
          try clear p2
          try clear c3
          try clear c3b0
          try clear c4
          try clear c5
          try clear p6
          try clear c7
          try clear c7b0
          try clear c8
          try clear c8b0
          try clear c9
          try clear c11
          try clear c13
          try clear p2
          obtain ⟨x1_2, x26_2, rfl, HA, HK2, HO_0, HO_1, HB⟩ := hrel
          cases gk with
          | zero => exact absurd HA.out (by simp [sym_Fixed.l1])
          | succ k2 =>
            have H := HA.out
            clear HA
            simp only [sym_Fixed.l1] at H
            by_cases c15 : x26_2 < 32
            · rw [if_pos c15] at H
              have c15b0 : decide (x26_2 < 32) = true := decide_eq_true c15
              clear c15
              by_cases c16 : x1_2.length < 17592186044416
              · rw [if_pos c16] at H
                have LMc16 := Aside0.mk c16
                clear c16
                obtain ⟨y113, hy113⟩ : ∃ y_ : List Int, y_ = (x1_2 ++ [5]) := ⟨_, rfl⟩
                replace H : (sym_Fixed.l1 k2 x0_1 y113 (wrap64 (x26_2 + 1))) = some (r1, r2) := by first | (rw [hy113]; with_reducible exact H) | (have H2_ := (Option.bind_some _ _).symm.trans H; rw [hy113]; with_reducible exact H2_) | (have H2_ := (Option.bind_some _ _).symm.trans H; with_reducible exact H2_) | with_reducible exact H | (rw [hy113]; exact H) | exact H
                have Ny113 := Aside0.mk hy113
                clear hy113
                have H' := Aside0.mk H
                clear H
                go_wp2_with (first | ((with_reducible refine gate_builtin (b := .append) (xs := #[.tmp 28, .tmp 29]) rfl ?_); at_builtin; refine Kd.R_append (Kd.int .i64) (w0 := w) w.heap.size rfl (.tmp 28) (.tmp 29) 73 3 (.int .i64 0) 8 rfl Try.underlying73 info3 rfl (by decide) (by omega) u1 x1_2 5 [.int .i64 5] (fun k_ => some k_ ≠ (u0 : Value).ownBlock) (fun _ => False) rfl rfl ?aP (fun _ hk => hk.elim) ?aF ?aO ?aB ?aS ?aL ?_; (case aP => exact rfl); (case aB => exact (by repeat (first | (with_reducible first | exact HB.out | apply below_alloc | apply pw_below_drewN | apply below_drew1) | exact HB.out))); (case aF => exact (fun k_ hk => Kd.fresh' (Kd.R_lt (by (with_reducible repeat (first | apply Kd.R_alloc | apply Kd.R_drewN | apply Kd.R_drew)); exact HO_0.out)) k_ hk)); (case aO => exact (by (with_reducible repeat (first | apply Kd.R_alloc | apply Kd.R_drewN | apply Kd.R_drew)); exact HO_1.out)); (case aS => exact (below_size (by repeat (first | (with_reducible first | exact HB.out | apply below_alloc | apply pw_below_drewN | apply below_drew1) | exact HB.out)))); (case aL => have := LMc16.out; omega); intro v114 w17 ho hb hg hat; rw [← Ny113.out] at ho; have n0_ := Aside0.mk (Kd.R_after (ok := (fun _ => True)) (by (with_reducible repeat (first | apply Kd.R_alloc | apply Kd.R_drewN | apply Kd.R_drew)); exact Kd.R_mono HO_0.out (fun _ hk => ⟨trivial, hk⟩)) hg hat); have n1_ := Aside0.mk (hb); have n2_ := Aside0.mk (ho); clear HO_0; clear HB; clear HO_1; have HO_0 := n0_; have HB := n1_; have HO115 := n2_; clear n0_ n1_ n2_; clear ho hb hg hat))
                go_roundg k2
                case measure => have := HK1.out; have := HK2.out; omega
                case rel => exact ⟨(y113), (wrap64 (x26_2 + 1)), (by first | rfl | (simp; done) | (simp [*]; done)), H', ⟨by have := HK1.out; have := HK2.out; omega⟩, ⟨by (with_reducible repeat (first | apply Kd.R_alloc | apply Kd.R_drewN | apply Kd.R_drew)); exact Kd.R_mono HO_0.out (fun _ hk => hk.2)⟩, ⟨by (with_reducible repeat (first | apply Kd.R_alloc | apply Kd.R_drewN | apply Kd.R_drew)); exact HO115.out⟩, ⟨by repeat (first | (with_reducible first | exact HB.out | apply below_alloc | apply pw_below_drewN | apply below_drew1) | exact HB.out)⟩⟩
              · rw [if_neg c16] at H
                exact absurd H (by simp)
            · rw [if_neg c15] at H
              have c15b0 : decide (x26_2 < 32) = false := decide_eq_false c15
              clear c15
              simp only [Option.some.injEq, Prod.mk.injEq] at H
              obtain ⟨rfl, rfl⟩ := H
              go_wp2
              go_ret2
              exact ⟨_, _, by first | rfl | (simp [errW_none, errW_some] <;> rfl) | (simp [*, errW_none, errW_some] <;> rfl), by (with_reducible repeat (first | apply Kd.R_alloc | apply Kd.R_drewN | apply Kd.R_drew)); exact HO_0.out, by (with_reducible repeat (first | apply Kd.R_alloc | apply Kd.R_drewN | apply Kd.R_drew)); exact HO_1.out, by repeat (first | (with_reducible first | exact HB.out | apply below_alloc | apply pw_below_drewN | apply below_drew1) | exact HB.out)⟩

end Go.Proofs.Ytcjijhjdkgjgeaa.P
namespace Go.Proofs.Ytcjijhjdkgjgeaa.P
open Go.RowKit Go.Proofs.YtcjijhjdkgjgeaaW.PrintWords Go.Proofs.YtcjijhjdkgjgeaaW.PrintLast Go.Proofs.YtcjijhjdkgjgeaaW.PrintMore
attribute [local go_sem] max2_int min2_int max_two min_two max_three min_three max_four min_four   -- for this text's walks alone
set_option linter.unusedVariables false
set_option linter.unusedSimpArgs false

/-! ### tree_above: function 54 -/
mutual
def tree_above.l0 : Nat → Int → List Int → Int → Int → Option (Int × Bool)
  | 0, _, _, _, _ => none
  | k + 1, x4, x10, x11, x12 => if x12 < x11 then (if 0 ≤ x12 then (if x12 < (x10.length : Int) then (if (rd x10 x12) < 0 then (tree_above.j1 k x4 (rd x10 x12) x10 x11 x12 true) else (tree_above.j1 k x4 (rd x10 x12) x10 x11 x12 (decide ((rd x10 x12) > 1048576)))) else (none)) else (none)) else (some (x4, true))
def tree_above.j1 : Nat → Int → Int → List Int → Int → Int → Bool → Option (Int × Bool)
  | 0, _, _, _, _, _, _ => none
  | k + 1, x4, x6, x10, x11, x12, x21 => if x21 = true then (some (0, false)) else (if x6 > 0 then (tree_above.l0 k (wrap64 (x4 + 1)) x10 x11 (wrap64 (x12 + 1))) else (tree_above.l0 k x4 x10 x11 (wrap64 (x12 + 1))))
end
def tree_above.f (k : Nat) (l0 : List Int) : Option (Int × Bool) := if (l0.length : Int) > 300 then (some (0, false)) else (tree_above.l0 k 0 l0 (l0.length : Int) 0)
theorem tree_above.mono_l : ∀ k, (∀ y0 y1 y2 y3, LeO (tree_above.l0 k y0 y1 y2 y3) (tree_above.l0 (k + 1) y0 y1 y2 y3)) ∧ (∀ y0 y1 y2 y3 y4 y5, LeO (tree_above.j1 k y0 y1 y2 y3 y4 y5) (tree_above.j1 (k + 1) y0 y1 y2 y3 y4 y5))
  | 0 => ⟨fun _ _ _ _ r h => by simp [tree_above.l0] at h, fun _ _ _ _ _ _ r h => by simp [tree_above.j1] at h⟩
  | k + 1 => by
    obtain ⟨ih0, ih1⟩ := tree_above.mono_l k
    refine ⟨?_, ?_⟩
    · intro y0 y1 y2 y3
      unfold tree_above.l0
      repeat' first
      | (with_reducible exact ih0 _ _ _ _)
      | (with_reducible exact ih1 _ _ _ _ _ _)
      | (with_reducible exact LeO.refl _)
      | (with_reducible exact LeO.none _)
      | (with_reducible refine LeO.ite ?_ ?_)
      | (with_reducible refine LeO.bind ?_ (fun _ => ?_))
      | exact ih0 _ _ _ _
      | exact ih1 _ _ _ _ _ _
      | exact LeO.none _
      | refine LeO.ite ?_ ?_
      | refine LeO.bind ?_ (fun _ => ?_)
    · intro y0 y1 y2 y3 y4 y5
      unfold tree_above.j1
      repeat' first
      | (with_reducible exact ih0 _ _ _ _)
      | (with_reducible exact ih1 _ _ _ _ _ _)
      | (with_reducible exact LeO.refl _)
      | (with_reducible exact LeO.none _)
      | (with_reducible refine LeO.ite ?_ ?_)
      | (with_reducible refine LeO.bind ?_ (fun _ => ?_))
      | exact ih0 _ _ _ _
      | exact ih1 _ _ _ _ _ _
      | exact LeO.none _
      | refine LeO.ite ?_ ?_
      | refine LeO.bind ?_ (fun _ => ?_)
theorem tree_above.mono : ∀ a0 k, LeO (tree_above.f k a0) (tree_above.f (k + 1) a0) := by
  intro a0 k
  obtain ⟨ih0, ih1⟩ := tree_above.mono_l k
  unfold tree_above.f
  repeat' first
      | (with_reducible exact ih0 _ _ _ _)
      | (with_reducible exact ih1 _ _ _ _ _ _)
      | (with_reducible exact LeO.refl _)
      | (with_reducible exact LeO.none _)
      | (with_reducible refine LeO.ite ?_ ?_)
      | (with_reducible refine LeO.bind ?_ (fun _ => ?_))
      | exact ih0 _ _ _ _
      | exact ih1 _ _ _ _ _ _
      | exact LeO.none _
      | refine LeO.ite ?_ ?_
      | refine LeO.bind ?_ (fun _ => ?_)
set_option maxHeartbeats 8000000 in
set_option maxRecDepth 100000 in
theorem tree_above.calls (k : Nat) (A0 : Option Addr) (c0 : Nat) (l0 : List Int) (r1 : Int) (r2 : Bool) (w : World) (hr0 : Kd.C (Kd.int .i64) w A0 l0.length l0) (hc0 : l0.length ≤ c0) (h : tree_above.f k l0 = some (r1, r2)) :
    Calls Try.prog 54 #[.slice A0 l0.length c0] w fun e w' => e = .returned (.tuple #[.int .i64 r1, .bool r2]) ∧ Drawn0 w w' := by
  have HR0 := Aside0.mk hr0
  have HC0 := Aside0.mk hc0
  clear hr0 hc0
  have H : (if (l0.length : Int) > 300 then (some (0, false)) else (tree_above.l0 k 0 l0 (l0.length : Int) 0)) = some (r1, r2) := h
  clear h
  by_cases c2 : (l0.length : Int) > 300
  · rw [if_pos c2] at H
    have c2b0 : decide (300 < (l0.length : Int)) = true := decide_eq_true c2
    have c2b1 : decide (300 < l0.length) = true := decide_eq_true (by omega)
    clear c2
    simp only [Option.some.injEq, Prod.mk.injEq] at H
    obtain ⟨rfl, rfl⟩ := H
    go_enter Try.func54, Try.ntmps54
    go_wp2
    go_ret2
    exact ⟨by first | rfl | (simp; done) | (simp [*]; done), by repeat (first | exact Drawn0.refl _ | apply Drawn0.step)⟩
  · rw [if_neg c2] at H
    have c2b0 : decide (300 < (l0.length : Int)) = false := decide_eq_false c2
    have c2b1 : decide (300 < l0.length) = false := decide_eq_false (by omega)
    clear c2
    have H' := Aside0.mk H
    clear H
    go_enter Try.func54, Try.ntmps54
    go_wp2
    go_loopg [4, 12] k (fun kq v4 v12 w' => ∃ (x4_1 : Int) (x12_1 : Int), v4 = .int .i64 x4_1 ∧ v12 = .int .i64 x12_1 ∧ Aside0 (tree_above.l0 kq x4_1 l0 (l0.length : Int) x12_1 = some (r1, r2)) ∧ Aside0 (kq ≤ k) ∧ Drawn0 w w')
    case atStart => exact ⟨(0), (0), (by first | rfl | (simp; done) | (simp [*]; done)), (by first | rfl | (simp; done) | (simp [*]; done)), H', ⟨Nat.le_refl _⟩, by repeat (first | exact Drawn0.refl _ | apply Drawn0.step)⟩
    case round =>
      clear H'
      try clear c2
      try clear c2b0
      try clear c2b1
      try clear p2
      obtain ⟨x4_1, x12_1, rfl, rfl, HA, HK1, ⟨m1, rfl⟩⟩ := hrel
      cases gk with
      | zero => exact absurd HA.out (by simp [tree_above.l0])
      | succ k1 =>
        have H := HA.out
        clear HA
        simp only [tree_above.l0] at H
        by_cases c3 : x12_1 < (l0.length : Int)
        · rw [if_pos c3] at H
          have c3b0 : decide (x12_1 < (l0.length : Int)) = true := decide_eq_true c3
          clear c3
          by_cases c4 : 0 ≤ x12_1
          · rw [if_pos c4] at H
            have c4b0 : decide (0 ≤ x12_1) = true := decide_eq_true c4
            clear c4
            by_cases c5 : x12_1 < (l0.length : Int)
            · rw [if_pos c5] at H
              have c5b0 : decide (x12_1 < (l0.length : Int)) = true := decide_eq_true c5
              clear c5
              have HC6 := Aside0.mk H
              clear H
              have p179 : 0 ≤ (x12_1 : Int) := of_decide_eq_true (by first | (with_reducible assumption) | assumption)
              have q179 : x12_1 < (l0.length : Int) := of_decide_eq_true (by first | (with_reducible assumption) | assumption)
              obtain ⟨ad179, e179, hx179_0⟩ := Kd.at_int HR0.out x12_1 p179 q179
              cases e179
              replace p179 := eq_true p179
              replace q179 := eq_true q179
              go_upto_region 7 with (fail)
              go_cut [21] (fun v21 wc => ∃ (kq : Nat) (x21_5 : Bool), v21 = .bool x21_5 ∧ Aside0 (tree_above.j1 kq x4_1 (rd l0 x12_1) l0 (l0.length : Int) x12_1 x21_5 = some (r1, r2)) ∧ Aside0 (kq ≤ k1) ∧ Drawn0 w wc)
              case first =>
                have H := HC6.out
                clear HC6
                by_cases c7 : (rd l0 x12_1) < 0
                · rw [if_pos c7] at H
                  have c7b0 : decide ((rd l0 x12_1) < 0) = true := decide_eq_true c7
                  clear c7
                  (first | rw [c7b0] | (simp only [i64_w, i32_w]; rw [c7b0]) | skip)
                  have H' := Aside0.mk H
                  clear H
                  go_wp2
                  go_meet
                  case rel => exact ⟨_, (true), (by first | rfl | (simp; done) | (simp [*]; done)), H', ⟨by have := HK1.out; first | omega | exact Nat.le_refl _⟩, by repeat (first | exact Drawn0.refl _ | apply Drawn0.step)⟩
                · rw [if_neg c7] at H
                  have c7b0 : decide ((rd l0 x12_1) < 0) = false := decide_eq_false c7
                  clear c7
                  (first | rw [c7b0] | (simp only [i64_w, i32_w]; rw [c7b0]) | skip)
                  have H' := Aside0.mk H
                  clear H
                  go_wp2
                  go_meet
                  case rel => exact ⟨_, (decide ((rd l0 x12_1) > 1048576)), (by first | rfl | (simp; done) | (simp [*]; done)), H', ⟨by have := HK1.out; first | omega | exact Nat.le_refl _⟩, by repeat (first | exact Drawn0.refl _ | apply Drawn0.step)⟩
              case rest =>
                clear HC6
                try clear p1
                try clear q1
                try clear hx1
                try clear c2
                try clear c2b0
                try clear c2b1
                try clear p2
                try clear c3
                try clear c3b0
                try clear c4
                try clear c4b0
                try clear c5
                try clear c5b0
                try clear c7
                try clear c7b0
                try clear hx179_0
                try clear p179
                try clear p2
                try clear q179
                obtain ⟨kq, x21_5, rfl, HA, HJ5, ⟨mc5, rfl⟩⟩ := hcut
                cases kq with
                | zero => exact absurd HA.out (by simp [tree_above.j1])
                | succ kj5 =>
                  have H := HA.out
                  clear HA
                  simp only [tree_above.j1] at H
                  by_cases c8 : x21_5 = true
                  · subst c8
                    have H1 : (some (0, false)) = some (r1, r2) := by rw [if_pos rfl] at H; exact H
                    clear H
                    have H := H1
                    clear H1
                    simp only [Option.some.injEq, Prod.mk.injEq] at H
                    obtain ⟨rfl, rfl⟩ := H
                    go_wp2
                    go_ret2
                    exact ⟨by first | rfl | (simp; done) | (simp [*]; done), by repeat (first | exact Drawn0.refl _ | apply Drawn0.step)⟩
                  · replace c8 := Bool.eq_false_iff.mpr c8
                    subst c8
                    have H1 : (if (rd l0 x12_1) > 0 then (tree_above.l0 kj5 (wrap64 (x4_1 + 1)) l0 (l0.length : Int) (wrap64 (x12_1 + 1))) else (tree_above.l0 kj5 x4_1 l0 (l0.length : Int) (wrap64 (x12_1 + 1)))) = some (r1, r2) := by rw [if_neg (show ¬ (false = true) by decide)] at H; exact H
                    clear H
                    have H := H1
                    clear H1
                    by_cases c9 : (rd l0 x12_1) > 0
                    · rw [if_pos c9] at H
                      have c9b0 : decide (0 < (rd l0 x12_1)) = true := decide_eq_true c9
                      clear c9
                      have H' := Aside0.mk H
                      clear H
                      go_wp2
                      go_roundg kj5
                      case measure => have := HK1.out; have := HJ5.out; omega
                      case rel => exact ⟨(wrap64 (x4_1 + 1)), (wrap64 (x12_1 + 1)), (by first | rfl | (simp; done) | (simp [*]; done)), (by first | rfl | (simp; done) | (simp [*]; done)), H', ⟨by have := HK1.out; have := HJ5.out; omega⟩, by repeat (first | exact Drawn0.refl _ | apply Drawn0.step)⟩
                    · rw [if_neg c9] at H
                      have c9b0 : decide (0 < (rd l0 x12_1)) = false := decide_eq_false c9
                      clear c9
                      have H' := Aside0.mk H
                      clear H
                      go_wp2
                      go_roundg kj5
                      case measure => have := HK1.out; have := HJ5.out; omega
                      case rel => exact ⟨(x4_1), (wrap64 (x12_1 + 1)), (by first | rfl | (simp; done) | (simp [*]; done)), (by first | rfl | (simp; done) | (simp [*]; done)), H', ⟨by have := HK1.out; have := HJ5.out; omega⟩, by repeat (first | exact Drawn0.refl _ | apply Drawn0.step)⟩
            · rw [if_neg c5] at H
              exact absurd H (by simp)
          · rw [if_neg c4] at H
            exact absurd H (by simp)
        · rw [if_neg c3] at H
          have c3b0 : decide (x12_1 < (l0.length : Int)) = false := decide_eq_false c3
          clear c3
          simp only [Option.some.injEq, Prod.mk.injEq] at H
          obtain ⟨rfl, rfl⟩ := H
          go_wp2
          go_ret2
          exact ⟨by first | rfl | (simp; done) | (simp [*]; done), by repeat (first | exact Drawn0.refl _ | apply Drawn0.step)⟩

end Go.Proofs.Ytcjijhjdkgjgeaa.P
namespace Go.Proofs.Ytcjijhjdkgjgeaa.P
open Go.RowKit Go.Proofs.YtcjijhjdkgjgeaaW.PrintWords Go.Proofs.YtcjijhjdkgjgeaaW.PrintLast Go.Proofs.YtcjijhjdkgjgeaaW.PrintMore
attribute [local go_sem] max2_int min2_int max_two min_two max_three min_three max_four min_four   -- for this text's walks alone
set_option linter.unusedVariables false
set_option linter.unusedSimpArgs false

-- PART
/-! ### slices_Clone_int_int: function 55 (by hand) -/
/-- What came in, in memory of its own. -/
def slices_Clone_int_int.f (l0 : List Int) : Option (List Int) := if l0.length < 17592186044416 then some l0 else none
set_option maxHeartbeats 8000000 in
set_option maxRecDepth 100000 in
theorem slices_Clone_int_int.calls (A0 : Option Addr) (c0 : Nat) (l0 : List Int) (r : List Int) (w : World) (hr0 : Kd.C (Kd.int .i64) w A0 l0.length l0) (hc0 : l0.length ≤ c0) (h : slices_Clone_int_int.f l0 = some r) :
    Calls Try.prog 55 #[.slice A0 l0.length c0] w fun e w' => ∃ v0_ : Value, e = .returned (v0_) ∧ Kd.R (Kd.int .i64) 3 w' w.heap.size (fun _ => True) v0_ r ∧ Below w.heap.size w w' := by
  unfold slices_Clone_int_int.f at h
  by_cases hlt : l0.length < 17592186044416
  · rw [if_pos hlt] at h
    obtain rfl := Option.some.inj h
    have HR := Aside0.mk hr0
    have HL := Aside0.mk hlt
    clear hr0 hlt h
    cases A0 with
    | none =>
      have h0 : l0 = [] := by
        rcases Nat.eq_zero_or_pos l0.length with h0 | h0
        · exact List.length_eq_zero_iff.1 h0
        · obtain ⟨ad, e, _⟩ := HR.out.2.2 h0
          cases e
      subst h0
      have hq : ∀ W : World, (binOp .eql 73 (.slice none 0 c0) (.slice none 0 0)).run Try.prog W = .ok (.bool true) W := fun W => Lib.run_eql_slice_nil W 73 3 none _ _ _ _ Try.underlying73
      go_enter Try.func55, Try.ntmps55
      go_wp2_with fail
      go_ret
      exact ⟨_, rfl, Kd.R_nil _ _ _ _ _, Below.refl _ _⟩
    | some ad =>
      have hq : ∀ W : World, (binOp .eql 73 (.slice (some ad) l0.length c0) (.slice none 0 0)).run Try.prog W = .ok (.bool false) W := fun W => Lib.run_eql_slice_nil W 73 3 (some ad) _ _ _ _ Try.underlying73
      go_enter Try.func55, Try.ntmps55
      go_wp2_with (first
        | ((with_reducible refine gate_dst (N := 5) rfl ?_); refine Kd.R_lit (Kd.int .i64) (w0 := w) w.heap.size 3 rfl (N := 5) rfl (xs := []) (inner := []) (ok := fun _ => True) (okp := fun _ => False) ?hr ?hrep (fun _ hk => hk.elim) trivial (Below.refl _ _) (Nat.le_refl _) (by simp) ?_; (case hr => first | (go_simp; done) | (go_simp; rfl)); (case hrep => exact ⟨rfl, fun j p hj => by simp at hj⟩); intro v1 w1 ho hb hg hat; (have HO := Aside0.mk ho); (have HB := Aside0.mk hb); (have HR1 := Aside0.mk (Kd.C_below HR.out hb)); clear ho hb hg hat HR)
        | ((with_reducible refine gate_builtin (b := .append) (xs := #[.tmp 5, .tmp 6]) rfl ?_); at_builtin; refine Kd.R_append_row (Value.int .i64) 0 (w0 := w) w.heap.size rfl (.tmp 5) (.tmp 6) 73 3 (.int .i64 0) 8 rfl Try.underlying73 info3 rfl (by decide) v1 [] l0 (some ad) l0.length c0 (fun _ => True) rfl rfl (fun _ _ => trivial) HO.out HR1.out HB.out HB.out.size (by have := HL.out; simp; omega) ?_; intro v2 w2 ho2 hb2 hg2 hat2; (have HO2 := Aside0.mk ho2); (have HB2 := Aside0.mk hb2); clear ho2 hb2 hg2 hat2))
      go_ret
      exact ⟨_, rfl, HO2.out, HB2.out⟩
  · rw [if_neg hlt] at h
    cases h

-- PART
end Go.Proofs.Ytcjijhjdkgjgeaa.P
namespace Go.Proofs.Ytcjijhjdkgjgeaa.P
open Go.RowKit Go.Proofs.YtcjijhjdkgjgeaaW.PrintWords Go.Proofs.YtcjijhjdkgjgeaaW.PrintLast Go.Proofs.YtcjijhjdkgjgeaaW.PrintMore
attribute [local go_sem] max2_int min2_int max_two min_two max_three min_three max_four min_four   -- for this text's walks alone
set_option linter.unusedVariables false
set_option linter.unusedSimpArgs false

-- PART
/-! ### slices_Grow_int_int: function 59 (by hand) -/
set_option maxHeartbeats 8000000 in
set_option maxRecDepth 100000 in
/-- Room for so many, out of nothing. -/
theorem grow_nil (n : Nat) (w : World) (hn : n ≤ 1000000) :
    Calls Try.prog 59 #[.slice none 0 0, .int .i64 n] w fun e w' => ∃ v, e = .returned v ∧ Kd.R (Kd.int .i64) 3 w' w.heap.size (fun _ => True) v [] ∧ Below w.heap.size w w' := by
  by_cases h0 : n = 0
  · subst h0
    go_enter Try.func59, Try.ntmps59
    go_wp2_with fail
    go_ret
    exact ⟨_, rfl, Kd.R_nil _ _ _ _ _, Below.refl _ _⟩
  · have h1 : decide ((n : Int) < 0) = false := decide_eq_false (by omega)
    have h2 : decide ((0 : Int) < (n : Int)) = true := decide_eq_true (by omega)
    have HN := Aside0.mk (Kd.R_nil (Kd.int .i64) 3 w w.heap.size (fun _ => True))
    obtain ⟨ti, hti, hts⟩ : ∃ i, Try.prog.info? 3 = some i ∧ i.size = 1 := by
      have h := info3
      obtain ⟨i, hi, hz⟩ := Option.map_eq_some_iff.1 h
      simp only [Prod.mk.injEq] at hz
      exact ⟨i, hi, hz.2.1⟩
    have HI := Aside0.mk (And.intro hti hts)
    clear hti hts
    go_enter Try.func59, Try.ntmps59
    go_wp2_with ((with_reducible refine gate_builtin (b := .append) (xs := #[.tmp 20, .tmp 21]) rfl ?_); at_builtin; refine Kd.R_append_zeros (Kd.int .i64) (w0 := w) w.heap.size rfl (.tmp 20) (.tmp 21) 73 3 3 (.int .i64 0) 8 rfl Try.underlying73 Try.underlying3 info3 rfl (by decide) (by decide) (.slice none 0 0) [] (0 : Int) (n : Int) (fun _ => True) rfl rfl rfl (fun _ _ => trivial) HN.out (by omega) (Below.refl _ _) (Nat.le_refl _) (by simp; omega) ?_; intro v1 w1 ho hb hg hat; (obtain ⟨A1, c1, e1⟩ := Kd.R_slice ho); (subst e1); (have hcut := (print_take_int (k := .i64) 73 3 Try.underlying73 HI.out.1 HI.out.2 A1 c1 ([] ++ List.replicate ((n : Int)).toNat 0) 0 (by omega) (by omega) (Kd.R_reads' ho).2.1).1 w1); (have HO := Aside0.mk ho); (have HB := Aside0.mk hb); clear ho hb hg hat)
    go_ret
    exact ⟨_, rfl, Kd.R_take (m := 0) HO.out (Nat.zero_le _), HB.out⟩

-- PART
end Go.Proofs.Ytcjijhjdkgjgeaa.P
namespace Go.Proofs.Ytcjijhjdkgjgeaa.P
open Go.RowKit Go.Proofs.YtcjijhjdkgjgeaaW.PrintWords Go.Proofs.YtcjijhjdkgjgeaaW.PrintLast Go.Proofs.YtcjijhjdkgjgeaaW.PrintMore
attribute [local go_sem] max2_int min2_int max_two min_two max_three min_three max_four min_four   -- for this text's walks alone
set_option linter.unusedVariables false
set_option linter.unusedSimpArgs false

-- PART
/-! ### slices_Concat_int_int: function 39 (by hand) -/
set_option maxHeartbeats 8000000 in
set_option maxRecDepth 100000 in
/-- Two rows one behind the other, in memory of their own. -/
theorem concat_two (gc : Nat) (A1 A2 : Option Addr) (c1 c2 : Nat) (s1 s2 : List Int) (w : World) (hg1 : w.cell? ⟨gc, 0, none⟩ = some (.slice A1 s1.length c1)) (hg2 : w.cell? ⟨gc, 1, none⟩ = some (.slice A2 s2.length c2))
    (hr1 : Kd.C (Kd.int .i64) w A1 s1.length s1) (hr2 : Kd.C (Kd.int .i64) w A2 s2.length s2) (hc1 : s1.length ≤ c1) (hc2 : s2.length ≤ c2) (hl : s1.length + s2.length ≤ 1000000) :
    Calls Try.prog 39 #[.slice (some ⟨gc, 0, none⟩) 2 2] w fun e w' => ∃ v, e = .returned v ∧ Kd.R (Kd.int .i64) 3 w' w.heap.size (fun _ => True) v (s1 ++ s2) ∧ Below w.heap.size w w' := by
  have H1 := Aside0.mk (And.intro hr1 hc1)
  have H2 := Aside0.mk (And.intro hr2 hc2)
  have HG := Aside0.mk (And.intro hg1 hg2)
  clear hr1 hr2 hc1 hc2
  obtain ⟨L1, hL1⟩ : ∃ L, L = s1.length := ⟨_, rfl⟩
  obtain ⟨L2, hL2⟩ : ∃ L, L = s2.length := ⟨_, rfl⟩
  have HL := Aside0.mk (And.intro hL1 hL2)
  rw [← hL1] at hg1 hl
  rw [← hL2] at hg2 hl
  clear hL1 hL2
  have hg3 : w.cell? ((⟨gc, 0, none⟩ : Addr).add 0) = some (.slice A1 L1 c1) := hg1
  go_enter Try.func39, Try.ntmps39
  go_wp2_with fail
  go_loop [3, 11] (fun v3 v11 => ∃ i : Nat, i ≤ 2 ∧ v11 = .int .i64 i ∧ v3 = .int .i64 ((if i = 0 then 0 else if i = 1 then L1 else L1 + L2 : Nat) : Int)) (fun _ v11 => 2 - (intOf v11).toNat)
  case atStart => exact ⟨0, by omega, rfl, rfl⟩
  case round =>
    obtain ⟨i, hi, rfl, rfl⟩ := hrel
    have hi3 : i = 0 ∨ i = 1 ∨ i = 2 := by omega
    rcases hi3 with rfl | rfl | rfl
    · simp only [if_true]
      go_wp2_with fail
      exact ⟨⟨1, by omega, rfl, rfl⟩, by decide⟩
    · simp only [if_true, Nat.one_ne_zero, if_false]
      go_wp2_with fail
      exact ⟨⟨2, by omega, rfl, by go_num⟩, by decide⟩
    · simp only [show ¬ (2 : Nat) = 0 from by decide, show ¬ (2 : Nat) = 1 from by decide, if_false]
      obtain ⟨n, hn⟩ : ∃ n, n = L1 + L2 := ⟨_, rfl⟩
      rw [← hn]
      have hnl : n ≤ 1000000 := by omega
      have hn2 := Aside0.mk hn
      clear hn
      go_wp2_with fail
      refine (grow_nil n w hnl).mono ?_
      rintro e1 w1 ⟨v0, rfl, ho, hb⟩
      have HO := Aside0.mk ho
      have HB := Aside0.mk hb
      clear ho hb hg1 hg2 hg3
      have hn2 := hn2.out
      go_wp2_with fail
      go_loopg [6, 27] 2 (fun kq v6 v27 w' => ∃ i : Nat, i ≤ 2 ∧ v27 = .int .i64 i ∧ Aside0 (kq + i = 2) ∧ Aside0 (Kd.R (Kd.int .i64) 3 w' w.heap.size (fun _ => True) v6 (if i = 0 then [] else if i = 1 then s1 else s1 ++ s2)) ∧ Aside0 (Below w.heap.size w w'))
      case atStart => exact ⟨0, by omega, rfl, ⟨rfl⟩, HO, HB⟩
      case round =>
        clear HO HB
        obtain ⟨i, hi, rfl, HG2, HO, HB⟩ := hrel
        obtain ⟨A6, c6, e6⟩ := Kd.R_slice HO.out
        subst e6
        have hg1 := pw_cell_below HB.out HG.out.1
        have hg2 := pw_cell_below HB.out HG.out.2
        rw [← HL.out.1] at hg1
        rw [← HL.out.2] at hg2
        have hg3 : wr.cell? ((⟨gc, 0, none⟩ : Addr).add 0) = some (.slice A1 L1 c1) := hg1
        have hi3 : i = 0 ∨ i = 1 ∨ i = 2 := by omega
        rcases hi3 with rfl | rfl | rfl
        · simp only [if_true] at HO ⊢
          go_wp2_with ((with_reducible refine gate_builtin (b := .append) (xs := #[.tmp 31, .tmp 32]) rfl ?_); at_builtin; refine Kd.R_append_row (Value.int .i64) 0 (w0 := w) w.heap.size rfl (.tmp 31) (.tmp 32) 73 3 (.int .i64 0) 8 rfl Try.underlying73 info3 rfl (by decide) (.slice A6 ([] : List Int).length c6) [] s1 A1 L1 c1 (fun _ => True) rfl rfl (fun _ _ => trivial) HO.out (HL.out.1 ▸ Kd.C_below H1.out.1 HB.out) HB.out HB.out.size (by have := HL.out; simp; omega) ?_; intro v2 w2 ho2 hb2 hg_ hat2; (have HO2 := Aside0.mk ho2); (have HB2 := Aside0.mk hb2); clear ho2 hb2 hg_ hat2)
          go_roundg (gk - 1)
          case measure => have := HG2.out; omega
          case rel => exact ⟨1, by omega, rfl, ⟨by have := HG2.out; omega⟩, ⟨by have h := HO2.out; rw [List.nil_append] at h; exact h⟩, HB2⟩
        · simp only [if_true, Nat.one_ne_zero, if_false] at HO ⊢
          go_wp2_with ((with_reducible refine gate_builtin (b := .append) (xs := #[.tmp 31, .tmp 32]) rfl ?_); at_builtin; refine Kd.R_append_row (Value.int .i64) 0 (w0 := w) w.heap.size rfl (.tmp 31) (.tmp 32) 73 3 (.int .i64 0) 8 rfl Try.underlying73 info3 rfl (by decide) (.slice A6 s1.length c6) s1 s2 A2 L2 c2 (fun _ => True) rfl rfl (fun _ _ => trivial) HO.out (HL.out.2 ▸ Kd.C_below H2.out.1 HB.out) HB.out HB.out.size (by have := HL.out; omega) ?_; intro v2 w2 ho2 hb2 hg_ hat2; (have HO2 := Aside0.mk ho2); (have HB2 := Aside0.mk hb2); clear ho2 hb2 hg_ hat2)
          go_roundg (gk - 1)
          case measure => have := HG2.out; omega
          case rel => exact ⟨2, by omega, rfl, ⟨by have := HG2.out; omega⟩, ⟨HO2.out⟩, HB2⟩
        · simp only [show ¬ (2 : Nat) = 0 from by decide, show ¬ (2 : Nat) = 1 from by decide, if_false] at HO ⊢
          go_wp2_with fail
          go_ret
          exact ⟨_, rfl, HO.out, HB.out⟩

-- PART
end Go.Proofs.Ytcjijhjdkgjgeaa.P
namespace Go.Proofs.Ytcjijhjdkgjgeaa.P
open Go.RowKit Go.Proofs.YtcjijhjdkgjgeaaW.PrintWords Go.Proofs.YtcjijhjdkgjgeaaW.PrintLast Go.Proofs.YtcjijhjdkgjgeaaW.PrintMore
attribute [local go_sem] max2_int min2_int max_two min_two max_three min_three max_four min_four   -- for this text's walks alone
set_option linter.unusedVariables false
set_option linter.unusedSimpArgs false

-- PART
/-! ### tree_node: function 78 (by hand) -/
/-- The cells of a node: what it weighs, its row of symbols. -/
def nodeCells (x : Int × Value) : List Value := [.int .i64 x.1, x.2]
def nodeRows (l : List (Int × Value)) : List (List Value) := l.map nodeCells
theorem nodeRows_length (l : List (Int × Value)) : (nodeRows l).length = l.length := by simp [nodeRows]
theorem nodeRows_at (l : List (Int × Value)) (i : Nat) (h : i < l.length) : (nodeRows l).getD i [] = nodeCells l[i] := by simp [nodeRows, h]
theorem nodeRows_erase (l : List (Int × Value)) (k : Nat) : (nodeRows l).eraseIdx k = nodeRows (l.eraseIdx k) := by
  rw [List.eraseIdx_eq_take_drop_succ, List.eraseIdx_eq_take_drop_succ, nodeRows, nodeRows, List.map_append, List.map_take, List.map_drop]
/-- A node list in memory of its own. -/
def Nodes (w : World) (base : Nat) (v : Value) (l : List (Int × Value)) : Prop := (Kd.raw 2).R 126 w base (fun _ => True) v (nodeRows l)
/-- Its block is known whole, its cells may be written. -/
theorem nodes_block {w : World} {base g m c : Nat} {rows : List (List Value)} (h : (Kd.raw 2).R 126 w base (fun _ => True) (.slice (some ⟨g, 0, none⟩) m c) rows) :
    ∃ cur, w.heap[g]? = some (.cells cur 126 (0, 0)) ∧ cur.size = c * 2 ∧ c ≤ maxLen ∧ base ≤ g := by
  obtain ⟨_, inner, hown, _⟩ := h
  rcases hown.2 with ⟨hv, _⟩ | ⟨g', cap', cur, hv, hb, hh, _, hcm, hcs, _⟩
  · cases hv
  injection hv with ha _ hc
  injection ha with ha
  injection ha with hg
  subst hg; subst hc
  exact ⟨cur, hh, hcs, hcm, hb⟩
/-- What is written behind its end changes nothing of it. -/
theorem nodes_behind {w : World} {base g m c o : Nat} {rows : List (List Value)} (h : (Kd.raw 2).R 126 w base (fun _ => True) (.slice (some ⟨g, 0, none⟩) m c) rows) (seg : List Value) (ho : m * 2 ≤ o) (hs : o + seg.length ≤ c * 2) :
    (Kd.raw 2).R 126 (w.setCells g o seg) base (fun _ => True) (.slice (some ⟨g, 0, none⟩) m c) rows := by
  obtain ⟨h0, inner, hown, hr⟩ := h
  refine ⟨h0, inner, ⟨hown.1, ?_⟩, hr⟩
  rcases hown.2 with ⟨hv, _⟩ | ⟨g', cap', cur, hv, hb, hh, hmc, hcm, hcs, htake⟩
  · cases hv
  injection hv with ha hn hc
  injection ha with ha
  injection ha with hg
  subst hg; subst hc
  have hz : (Kd.raw 2).sz = 2 := rfl
  obtain ⟨cur', h3, h4, h5⟩ := setCells_row seg o w cur hh (by rw [hcs, hz]; exact hs)
  refine .inr ⟨g, c, cur', by rw [hn], hb, h3, hmc, hcm, by rw [h4, hcs], ?_⟩
  have hl : (cur.toList.take o).length = o := by rw [List.length_take, Array.length_toList, hcs, hz]; omega
  rw [h5, List.append_assoc, ← htake, List.take_append_of_le_length (by rw [hl, ← hn, hz]; omega), List.take_take, Nat.min_eq_left (by rw [← hn, hz]; omega)]
theorem clear_node (w : World) (ty : TypeId) (b o c : Nat) (hc : ∀ j, j < 2 → (w.cell? ⟨b, o + j, none⟩).isSome = true) (hf : ∀ j, j < 2 → w.frozen? ⟨b, o + j, none⟩ = false) :
    (Builtin.clear_ #[124] ty #[.slice (some ⟨b, o, none⟩) 1 c]).run Try.prog w = .ok (.tuple #[]) (w.setCells b o [.int .i64 0, .slice none 0 0]) := by
  have ht := Try.underlying124
  have hv : ∀ w, (zeroValue 126).run Try.prog w = .ok (.agg #[.int .i64 0, .slice none 0 0]) w := fun w => by kernel_rfl
  have hst := run_storeCells_cells (P := Try.prog) b o [.int .i64 0, .slice none 0 0] 0 w (by simpa using hc) (by simpa using hf) (by intro v hv'; simp at hv'; rcases hv' with rfl | rfl <;> rfl)
  simp only [Nat.add_zero] at hst
  have hzc : (Builtin.zeroCells (Value.agg #[.int .i64 0, .slice none 0 0]).cells 1).toList = [.int .i64 0, .slice none 0 0] := by simp [Builtin.zeroCells, Value.cells]; rfl
  simp [Builtin.clear_, run_underlying ht, hv, hzc, hst]
set_option maxHeartbeats 8000000 in
set_option maxRecDepth 100000 in
theorem delete_node (g c at' : Nat) (l : List (Int × Value)) (w0 w : World) (hO : Nodes w w0.heap.size (.slice (some ⟨g, 0, none⟩) l.length c) l) (hat : at' < l.length) (hB : Below w0.heap.size w0 w) (hl : l.length ≤ 1000000) :
    Calls Try.prog 78 #[.slice (some ⟨g, 0, none⟩) l.length c, .int .i64 at', .int .i64 ((at' : Int) + 1)] w fun e w' => e = .returned (.slice (some ⟨g, 0, none⟩) (l.length - 1) c) ∧
      Nodes w' w0.heap.size (.slice (some ⟨g, 0, none⟩) (l.length - 1) c) (l.eraseIdx at') ∧ Below w0.heap.size w0 w' ∧ w.grownBy w' (some g) := by
  have HB := Aside0.mk hB
  obtain ⟨hn, hc, _⟩ := Kd.R_reads' hO
  have hcl : l.length ≤ c := by omega
  obtain ⟨L, hL⟩ : ∃ L, L = l.length := ⟨_, rfl⟩
  have HL := Aside0.mk hL
  rw [← hL] at hat hcl hl hO ⊢
  have HO := Aside0.mk hO
  have hmx : c ≤ 9223372036854775807 := by
    obtain ⟨_, _, _, h, _⟩ := nodes_block hO
    exact h
  clear hO hB hn hc hL
  have hne : ((at' : Int) == (at' : Int) + 1) = false := by rw [beq_eq_false_iff_ne]; omega
  have hic : at' ≤ c := by omega
  have hjc : at' + 1 ≤ c := by omega
  have hi2 : (0 : Int) ≤ (at' : Int) + 1 := by omega
  have hi0 : (0 : Int) ≤ (at' : Int) := by omega
  have hi1 : (at' : Int) + 1 ≤ (L : Int) := by omega
  go_enter Try.func78, Try.ntmps78
  go_wp2_with fail
  have hA : (if c = at' + 1 then some ({ block := g, off := 0 } : Addr) else some { block := g, off := (at' + 1) * 2 }) = if c = at' + 1 then some (⟨g, 0, none⟩ : Addr) else (some (⟨g, 0, none⟩ : Addr)).map (·.add ((at' + 1) * (Kd.raw 2).sz)) := by
    have hz : (Kd.raw 2).sz = 2 := rfl
    simp [hz, Addr.add]
  have HA := Aside0.mk hA
  clear hA
  have hinfo : (Try.prog.info? 126).map (·.size) = some (Kd.raw 2).sz := by kernel_rfl
  have HB1 := HB.out.drew
  have hO1 := Kd.R_drew HO.out
  go_region_law (refine Kd.R_delete_step (Kd.raw 2) (w0 := w0) w0.heap.size rfl (.tmp 22) (.tmp 25) 124 126 rfl Try.underlying124 hinfo rfl rfl HA.out rfl hO1 hat HB1 HB1.size ?_; intro w1 hO1 hB1 hg1)
  have HO1 := Aside0.mk hO1
  have HB2 := Aside0.mk hB1
  have HG := Aside0.mk hg1
  obtain ⟨cur1, hh1, hs1, _, _⟩ := nodes_block hO1
  have hcl : ∀ ty, (Builtin.clear_ #[124] ty #[.slice (some ⟨g, (L - 1) * 2, none⟩) (L - (L - 1)) (c - (L - 1))]).run Try.prog w1 = .ok (.tuple #[]) (w1.setCells g ((L - 1) * 2) [.int .i64 0, .slice none 0 0]) := fun ty => by
    rw [show L - (L - 1) = 1 by omega]
    exact clear_node w1 ty g ((L - 1) * 2) (c - (L - 1)) (fun j hj => by rw [cell_of_row w1 g _ cur1 126 (0, 0) hh1]; simp; omega) (fun j _ => blk_frozen hh1 _)
  have hc1 : ¬ (c = L - 1) := by omega
  have hc2 : L - 1 ≤ L := by omega
  have hc3 : L ≤ c := by omega
  have hc4 : (0 : Int) ≤ ((L - 1 : Nat) : Int) := by omega
  have hc5 : ((L - 1 : Nat) : Int) ≤ (L : Int) := by omega
  have HN := Aside0.mk (nodes_behind hO1 [.int .i64 0, .slice none 0 0] (Nat.le_refl _) (by simp; omega))
  obtain ⟨s1, s2, s3, s4⟩ := setCells_same g [.int .i64 0, .slice none 0 0] ((L - 1) * 2) w1
  have HS := Aside0.mk (show w1.grownBy (w1.setCells g ((L - 1) * 2) [.int .i64 0, .slice none 0 0]) (some g) from ⟨s1, s2, s3, by rw [s4]; exact Nat.le_refl _, fun k' _ hk' => setCells_far _ _ k' (fun he => hk' (by rw [he]))⟩)
  have HGG := Aside0.mk (show w.grownBy w.drew (some g) from ⟨rfl, rfl, rfl, Nat.le_refl _, fun _ _ _ => rfl⟩)
  clear hO1 hB1 hg1 hh1 hs1 s1 s2 s3 s4
  have HZ := Aside0.mk ‹w0.heap.size ≤ g›
  go_wp2_with fail
  all_goals
    go_ret
    refine ⟨rfl, ?_, ?_, ?_⟩
    · rw [Nodes, ← nodeRows_erase]
      first
      | exact HN.out
      | (have hh := HN.out; rw [show c = at' + 1 by assumption] at hh; exact hh)
    · exact HB2.out.grown HS.out HB2.out.size (fun k hk => by injection hk with hk; subst hk; exact HZ.out)
    · exact (HGG.out.trans HG.out).trans HS.out

-- PART
end Go.Proofs.Ytcjijhjdkgjgeaa.P
namespace Go.Proofs.Ytcjijhjdkgjgeaa.P
open Go.RowKit Go.Proofs.YtcjijhjdkgjgeaaW.PrintWords Go.Proofs.YtcjijhjdkgjgeaaW.PrintLast Go.Proofs.YtcjijhjdkgjgeaaW.PrintMore
attribute [local go_sem] max2_int min2_int max_two min_two max_three min_three max_four min_four   -- for this text's walks alone
set_option linter.unusedVariables false
set_option linter.unusedSimpArgs false

-- PART
/-! ### tree_least: function 71 (by hand) -/
/-- The place of the first one of the least ones, of the first k. -/
def leastTo (ws : List Int) (k : Nat) : Nat := (List.range k).foldl (fun at' i => if ws.getD i 0 < ws.getD at' 0 then i else at') 0
def leastAt (ws : List Int) : Nat := leastTo ws ws.length
theorem leastTo_succ (ws : List Int) (k : Nat) : leastTo ws (k + 1) = if ws.getD k 0 < ws.getD (leastTo ws k) 0 then k else leastTo ws k := by
  simp [leastTo, List.range_succ]
theorem leastTo_lt (ws : List Int) (k : Nat) (h : k ≤ ws.length) (h0 : 0 < ws.length) : leastTo ws k < ws.length := by
  induction k with
  | zero => simpa [leastTo] using h0
  | succ n ih =>
    rw [leastTo_succ]
    split
    · omega
    · exact ih (by omega)
theorem node_at {w : World} {g : Nat} {l : List (Int × Value)} (h : (Kd.raw 2).C w (some ⟨g, 0, none⟩) (nodeRows l).length (nodeRows l)) {i : Nat} {x : Int × Value} (hx : l[i]? = some x) :
    w.cell? ⟨g, i * 2, none⟩ = some (.int .i64 x.1) ∧ w.cell? ⟨g, i * 2 + 1, none⟩ = some x.2 := by
  have hi : i < l.length := (List.getElem?_eq_some_iff.1 hx).1
  obtain ⟨ad, c, e, hc, hr, hcell⟩ := ReadsRow.get_ h [] (i : Int) (by omega) (by rw [nodeRows_length]; omega)
  injection e with e
  subst e
  rw [Int.toNat_natCast, nodeRows_at l i hi] at hr
  rw [Int.toNat_natCast] at hcell
  have e2 : l[i] = x := by rw [List.getElem?_eq_getElem hi] at hx; injection hx
  rw [e2] at hr
  have e3 : c = nodeCells x := hr.1
  subst e3
  have h0 := hcell 0 _ rfl
  have h1 := hcell 1 _ rfl
  rw [show (Kd.raw 2).sz = 2 from rfl, add_plain] at h0 h1
  exact ⟨h0, h1⟩
set_option maxHeartbeats 8000000 in
set_option maxRecDepth 100000 in
theorem tree_least (g c : Nat) (l : List (Int × Value)) (w0 w : World) (hO : Nodes w w0.heap.size (.slice (some ⟨g, 0, none⟩) l.length c) l) (h0 : 0 < l.length) (hB : Below w0.heap.size w0 w) (hl : l.length ≤ 1000000) (hV : ∀ x ∈ l, ∃ A n c, x.2 = .slice A n c) :
    Calls Try.prog 71 #[.slice (some ⟨g, 0, none⟩) l.length c] w fun e w' => ∃ x, l[leastAt (l.map (·.1))]? = some x ∧ e = .returned (.tuple #[.agg #[.int .i64 x.1, x.2], .slice (some ⟨g, 0, none⟩) (l.length - 1) c]) ∧
      Nodes w' w0.heap.size (.slice (some ⟨g, 0, none⟩) (l.length - 1) c) (l.eraseIdx (leastAt (l.map (·.1)))) ∧ Below w0.heap.size w0 w' ∧ w.grownBy w' (some g) := by
  have HV := Aside0.mk hV
  clear hV
  have HO := Aside0.mk hO
  have HB := Aside0.mk hB
  obtain ⟨hLL, hLc, hC⟩ := Kd.R_reads' hO
  have HC := Aside0.mk hC
  obtain ⟨L, hL⟩ : ∃ L, L = l.length := ⟨_, rfl⟩
  rw [← hL] at hl h0 ⊢
  have HL := Aside0.mk hL
  obtain ⟨ws, hws⟩ : ∃ ws, ws = l.map (·.1) := ⟨_, rfl⟩
  rw [← hws]
  have HW := Aside0.mk hws
  clear hO hB hC hLc hL hws hLL
  go_enter Try.func71, Try.ntmps71
  go_wp2_with fail
  obtain ⟨wA, hwA⟩ : ∃ wA, wA = w.alloc (Obj.cells #[Value.int IntKind.i64 0, Value.slice none 0 0] 126) := ⟨_, rfl⟩
  have hAc : wA.cell? ⟨w.heap.size, 0, none⟩ = some (.int .i64 0) := by rw [hwA]; simp
  have HAb := Aside0.mk (show Below w.heap.size w wA from by rw [hwA]; exact (Below.refl _ _).alloc (Nat.le_refl _) _)
  have HAs := Aside0.mk (show w.heap.size + 1 = wA.heap.size from by rw [hwA]; simp)
  rw [← hwA]
  have HA := Aside0.mk hwA
  clear hwA
  go_loopg [4, 10] L (fun kq v4 v10 w' => ∃ i : Nat, i ≤ L ∧ v10 = .int .i64 i ∧ v4 = .int .i64 (leastTo ws i) ∧ Aside0 (kq + i = L) ∧ Aside0 (Below wA.heap.size wA w'))
  case atStart => exact ⟨0, by omega, rfl, rfl, ⟨rfl⟩, ⟨Below.refl _ _⟩⟩
  case round =>
    obtain ⟨i, hi, rfl, rfl, HG, HBr⟩ := hrel
    by_cases hlt : i < L
    · have HBw := Aside0.mk (show Below w.heap.size w wr from below_then HAb.out (by have := HAs.out; omega) HBr.out)
      obtain ⟨⟨wx, vx⟩, hx⟩ : ∃ x, l[i]? = some x := ⟨_, List.getElem?_eq_getElem (by rw [← HL.out]; exact hlt)⟩
      obtain ⟨⟨wy, vy⟩, hy⟩ : ∃ y, l[leastTo ws i]? = some y := ⟨_, List.getElem?_eq_getElem (by have := leastTo_lt ws i (by rw [HW.out]; simp; have := HL.out; omega) (by rw [HW.out]; simp; have := HL.out; omega); rw [HW.out] at this ⊢; simpa using this)⟩
      obtain ⟨Ax, nx, cx, ex⟩ := HV.out _ (List.mem_of_getElem? hx)
      obtain ⟨Ay, ny, cy, ey⟩ := HV.out _ (List.mem_of_getElem? hy)
      simp only at ex ey
      subst ex; subst ey
      obtain ⟨hx1, hx2⟩ := node_at (Kd.C_below HC.out HBw.out) hx
      obtain ⟨hy1, hy2⟩ := node_at (Kd.C_below HC.out HBw.out) hy
      have HX := Aside0.mk hx
      have HY := Aside0.mk hy
      clear hx hy
      go_wp2_with fail
      obtain ⟨w2, hw2⟩ : ∃ w2, w2 = wr.alloc (Obj.cells #[Value.int IntKind.i64 wx, Value.slice Ax nx cx] 126) := ⟨_, rfl⟩
      have hn1 : w2.cell? ⟨wr.heap.size, 0, none⟩ = some (.int .i64 wx) := by rw [hw2]; simp
      have HB2 := Aside0.mk (show Below wr.heap.size wr w2 from by rw [hw2]; exact (Below.refl _ _).alloc (Nat.le_refl _) _)
      have hy3 : w2.cell? ⟨g, leastTo ws i * 2, none⟩ = some (.int .i64 wy) := pw_cell_below HB2.out hy1
      rw [← hw2]
      clear hw2 hx1 hx2 hy1 hy2 hAc
      obtain ⟨at', hat⟩ : ∃ at', at' = leastTo ws i := ⟨_, rfl⟩
      have HAT := Aside0.mk hat
      have hatL : at' < L := by
        rw [hat]
        have := leastTo_lt ws i (by rw [HW.out]; simp; have := HL.out; omega) (by rw [HW.out]; simp; have := HL.out; omega)
        rw [HW.out] at this ⊢
        have h2 := HL.out
        simpa [← h2] using this
      rw [← hat] at hy3 ⊢
      clear hat
      have hat0 : (0 : Int) ≤ (at' : Int) := by omega
      have hat1 : (at' : Int) < (L : Int) := by omega
      have HS := Aside0.mk (show leastTo ws (i + 1) = if wx < wy then i else at' from by
        have hx := HX.out
        have hy := HY.out
        rw [leastTo_succ, ← HAT.out, HW.out]
        rw [← HAT.out] at hy
        simp [List.getD_eq_getElem?_getD, hx, hy])
      go_region
      by_cases hxy : wx < wy
      · have hd : decide (wx < wy) = true := decide_eq_true hxy
        go_wp2_with fail
        go_roundg (gk - 1)
        case measure => have := HG.out; omega
        case rel => exact ⟨i + 1, by omega, by go_num, by rw [HS.out, if_pos hxy], ⟨by have := HG.out; omega⟩, ⟨below_then (HBr.out) HBr.out.size (by exact below_then HB2.out HB2.out.size (below_drew (Below.refl _ _)))⟩⟩
      · have hd : decide (wx < wy) = false := decide_eq_false hxy
        go_wp2_with fail
        go_roundg (gk - 1)
        case measure => have := HG.out; omega
        case rel => exact ⟨i + 1, by omega, by go_num, by rw [HS.out, if_neg (by omega)], ⟨by have := HG.out; omega⟩, ⟨below_then (HBr.out) HBr.out.size (by exact below_then HB2.out HB2.out.size (below_drew (Below.refl _ _)))⟩⟩
    · have hiL : i = L := by omega
      subst hiL
      have HBw := Aside0.mk (show Below w.heap.size w wr from below_then HAb.out (by have := HAs.out; omega) HBr.out)
      obtain ⟨⟨wy, vy⟩, hy⟩ : ∃ y, l[leastTo ws i]? = some y := ⟨_, List.getElem?_eq_getElem (by have := leastTo_lt ws i (by rw [HW.out]; simp; have := HL.out; omega) (by rw [HW.out]; simp; have := HL.out; omega); rw [HW.out] at this ⊢; simpa using this)⟩
      obtain ⟨Ay, ny, cy, ey⟩ := HV.out _ (List.mem_of_getElem? hy)
      simp only at ey
      subst ey
      obtain ⟨hy1, hy2⟩ := node_at (Kd.C_below HC.out HBw.out) hy
      have HY := Aside0.mk hy
      clear hy
      obtain ⟨at', hat⟩ : ∃ at', at' = leastTo ws i := ⟨_, rfl⟩
      have HAT := Aside0.mk hat
      have hatL : at' < i := by
        rw [hat]
        have := leastTo_lt ws i (by rw [HW.out]; simp; have := HL.out; omega) (by rw [HW.out]; simp; have := HL.out; omega)
        rw [HW.out] at this ⊢
        have h2 := HL.out
        simpa [← h2] using this
      rw [← hat] at hy1 hy2 ⊢
      clear hat
      have hat0 : (0 : Int) ≤ (at' : Int) := by omega
      have hat1 : (at' : Int) < (i : Int) := by omega
      go_wp2_with fail
      have hgl : g < w.heap.size := Kd.R_lt HO.out g (by simp [Value.ownBlock])
      have hrl : w.heap.size < wr.heap.size := by have := HAs.out; have := HBr.out.size; omega
      obtain ⟨w2, hw2⟩ : ∃ w2, w2 = wr.alloc (Obj.cells #[Value.int IntKind.i64 wy, Value.slice Ay ny cy] 126) := ⟨_, rfl⟩
      have HB2 := Aside0.mk (show Below wr.heap.size wr w2 from by rw [hw2]; exact (Below.refl _ _).alloc (Nat.le_refl _) _)
      have kN : w2.heap[wr.heap.size]? = some (.cells #[Value.int IntKind.i64 wy, Value.slice Ay ny cy] 126 (0, 0)) := by rw [hw2]; exact Array.getElem?_push_size
      have kA : w2.heap[w.heap.size]? = some (.cells #[Value.int IntKind.i64 0, Value.slice none 0 0] 126 (0, 0)) := by
        rw [HB2.out.block _ hrl, HBr.out.block _ (by have := HAs.out; omega), HA.out]; exact Array.getElem?_push_size
      rw [← hw2]
      have KN := Aside0.mk kN
      have KA := Aside0.mk kA
      have hn1 : w2.cell? ⟨wr.heap.size, 0, none⟩ = some (.int .i64 wy) := by rw [cell_of_row w2 _ _ _ _ _ kN]; rfl
      have hn2 : w2.cell? ⟨wr.heap.size, 1, none⟩ = some (.slice Ay ny cy) := by rw [cell_of_row w2 _ _ _ _ _ kN]; rfl
      have HB3 := Aside0.mk (show Below w.heap.size w w2 from below_then HBw.out HBw.out.size HB2.out)
      have HB4 := Aside0.mk (show Below w0.heap.size w0 w2 from below_then HB.out HB.out.size HB3.out)
      have HO2 := Aside0.mk (show Nodes w2 w0.heap.size (.slice (some ⟨g, 0, none⟩) i c) l from HL.out ▸ Kd.R_below HO.out HB3.out)
      have HLL := HL.out
      subst HLL
      clear hw2 kN kA hy1 hy2 hAc
      have hwr : IntKind.i64.wrap ((at' : Int) + 1) = (at' : Int) + 1 := IntWalk.i64_in _ (by omega)
      go_region_with (go_at_call 78; refine (delete_node g c at' l w0 _ (Kd.R_drew HO2.out) hatL (HB4.out.drew) hl).mono ?_; rintro e1 w3 ⟨rfl, hN, hB5, hg⟩; (have kN := blk_grown (show w2.drew.heap[wr.heap.size]? = _ from KN.out) hg (by simp; omega)); (have kA := blk_grown (show w2.drew.heap[w.heap.size]? = _ from KA.out) hg (by simp; omega)); (have hm1 : w3.cell? ⟨wr.heap.size, 0, none⟩ = some (.int .i64 wy) := by (rw [cell_of_row w3 _ _ _ _ _ kN]; rfl)); (have hm2 : w3.cell? ⟨wr.heap.size, 1, none⟩ = some (.slice Ay ny cy) := by (rw [cell_of_row w3 _ _ _ _ _ kN]; rfl)); (have hr1 : w3.cell? ⟨w.heap.size, 0, none⟩ = some (.int .i64 0) := by (rw [cell_of_row w3 _ _ _ _ _ kA]; rfl)); (have hr2 : w3.cell? ⟨w.heap.size, 1, none⟩ = some (.slice none 0 0) := by (rw [cell_of_row w3 _ _ _ _ _ kA]; rfl)); (have hf1 : w3.frozen? ⟨w.heap.size, 0, none⟩ = false := blk_frozen kA _); (have hf2 : w3.frozen? ⟨w.heap.size, 1, none⟩ = false := blk_frozen kA _); (have HN := Aside0.mk (And.intro hN (And.intro hB5 hg))); (have KA3 := Aside0.mk kA); clear kN kA hN hB5 hg)
      all_goals
        go_wp2_with fail
        (try simp only [Exit.inBlock, Exit.then])
        refine bodyPost_ret (results_ct rfl _ _ w.heap.size 126 #[.int .i64 wy, .slice Ay ny cy] (0, 0) _ rfl (by (with_reducible repeat (first | refine blk_drewN ?_ _ | refine blk_drew ?_ | refine blk_alloc ?_ _)); refine blk_put (cs := #[.int .i64 wy, .slice none 0 0]) ?_ 1 _ rfl; (with_reducible repeat (first | refine blk_drewN ?_ _ | refine blk_drew ?_ | refine blk_alloc ?_ _)); refine blk_put (cs := #[.int .i64 0, .slice none 0 0]) ?_ 0 _ rfl; (with_reducible repeat (first | refine blk_drewN ?_ _ | refine blk_drew ?_ | refine blk_alloc ?_ _)); exact KA3.out) Try.underlying126 rfl (by kernel_rfl)) rfl ?_
        obtain ⟨hN, hB5, hg⟩ := HN.out
        have hle : leastAt ws = at' := by
          rw [HAT.out, leastAt, HW.out, List.length_map]
        have hwb : w0.heap.size ≤ w.heap.size := HB.out.size
        have hw3 : Below w.heap.size w3 ((w3.setCell ⟨w.heap.size, 0, none⟩ (.int .i64 wy)).setCell ⟨w.heap.size, 1, none⟩ (.slice Ay ny cy)) :=
          Below.setCell (p := ⟨w.heap.size, 1, none⟩) (Below.setCell (p := ⟨w.heap.size, 0, none⟩) (Below.refl _ _) (Nat.le_refl _) _) (Nat.le_refl _) _
        refine ⟨_, by rw [hle, HAT.out]; exact HY.out, rfl, ?_, ?_, ?_⟩
        · rw [hle]
          refine Kd.raw_any (Kd.R_far (Kd.R_far (Kd.raw_tight hN) ?_ _) ?_ _)
          all_goals (intro k hk; simp [Value.ownBlock] at hk ⊢; omega)
        · exact hB5.trans ⟨hw3.os, hw3.tape, hw3.output, hw3.size, fun k hk => hw3.block k (by omega)⟩
        · have h3 := HB3.out
          have h4 : w2.drew.heap.size = w2.heap.size := rfl
          exact ⟨hw3.os.trans (hg.os.trans h3.os), hw3.tape.trans (hg.tape.trans h3.tape), hw3.output.trans (hg.output.trans h3.output), by have := hg.size; have := h3.size; have := hw3.size; omega, fun k hk hne => (hw3.block k hk).trans ((hg.block k (by have := h3.size; omega) hne).trans (h3.block k hk))⟩

-- PART
end Go.Proofs.Ytcjijhjdkgjgeaa.P
namespace Go.Proofs.Ytcjijhjdkgjgeaa.P
open Go.RowKit Go.Proofs.YtcjijhjdkgjgeaaW.PrintWords Go.Proofs.YtcjijhjdkgjgeaaW.PrintLast Go.Proofs.YtcjijhjdkgjgeaaW.PrintMore
attribute [local go_sem] max2_int min2_int max_two min_two max_three min_three max_four min_four   -- for this text's walks alone
set_option linter.unusedVariables false
set_option linter.unusedSimpArgs false

-- PART
/-! ### tree_once: function 56 (by hand) -/
def leafs (ws : List Int) (i : Nat) : List (Int × List Int) := (List.range i).filterMap (fun j => if 0 < ws.getD j 0 then some (ws.getD j 0, [(j : Int)]) else none)
theorem leafs_succ (ws : List Int) (i : Nat) : leafs ws (i + 1) = leafs ws i ++ (if 0 < ws.getD i 0 then [(ws.getD i 0, [(i : Int)])] else []) := by
  unfold leafs
  rw [List.range_succ, List.filterMap_append]
  congr 1
  by_cases h : 0 < ws.getD i 0
  · rw [if_pos h]; simp only [List.filterMap_cons, List.filterMap_nil, if_pos h]
  · rw [if_neg h]; simp only [List.filterMap_cons, List.filterMap_nil, if_neg h]
/-- One more for each symbol. -/
def bump (out both : List Int) : List Int := both.foldl (fun o s => o.set s.toNat (wrap64 (rd o s + 1))) out
theorem bump_length (both : List Int) : ∀ out : List Int, (bump out both).length = out.length := by
  induction both with
  | nil => intro out; rfl
  | cons s r ih => intro out; exact (ih _).trans (by simp)
theorem bump_take (out both : List Int) (i : Nat) (h : i < both.length) : bump out (both.take (i + 1)) = (bump out (both.take i)).set (rd both i).toNat (wrap64 (rd (bump out (both.take i)) (rd both i) + 1)) := by
  have e : rd both (i : Int) = both[i] := by unfold rd; rw [Int.toNat_natCast]; simp [h]
  rw [List.take_succ_eq_append_getElem h, e]
  unfold bump
  rw [List.foldl_append]
  rfl
def pickOf (ns : List (Int × List Int)) : Int × List Int := ns.getD (leastAt (ns.map (·.1))) (0, [])
def restOf (ns : List (Int × List Int)) : List (Int × List Int) := ns.eraseIdx (leastAt (ns.map (·.1)))
def bothOf (ns : List (Int × List Int)) : List Int := (pickOf ns).2 ++ (pickOf (restOf ns)).2
def mergeOf (ns : List (Int × List Int)) : List (Int × List Int) := restOf (restOf ns) ++ [(wrap64 ((pickOf ns).1 + (pickOf (restOf ns)).1), bothOf ns)]
def onceFrom : Nat → List (Int × List Int) → List Int → List Int
  | 0, _, out => out
  | k + 1, ns, out => if 1 < ns.length then onceFrom k (mergeOf ns) (bump out (bothOf ns)) else out
def onceOf (ws : List Int) : List Int :=
  if (leafs ws ws.length).length = 1 then (List.replicate ws.length 0).set (rd ((leafs ws ws.length).getD 0 (0, [])).2 0).toNat 1
  else onceFrom (leafs ws ws.length).length (leafs ws ws.length) (List.replicate ws.length 0)
theorem onceFrom_end (k : Nat) (ns : List (Int × List Int)) (out : List Int) (h : ¬ 1 < ns.length) : onceFrom k ns out = out := by
  cases k with
  | zero => rfl
  | succ k => unfold onceFrom; rw [if_neg h]
def Good (n : Nat) (ns : List (Int × List Int)) : Prop := ns.length ≤ n ∧ (ns.map (·.2.length)).sum ≤ n ∧ ∀ x ∈ ns, x.2 ≠ [] ∧ ∀ s ∈ x.2, 0 ≤ s ∧ s < n
theorem leafs_good (ws : List Int) (i : Nat) (h : i ≤ ws.length) : (leafs ws i).length ≤ i ∧ ((leafs ws i).map (·.2.length)).sum ≤ i ∧ ∀ x ∈ leafs ws i, x.2 ≠ [] ∧ ∀ s ∈ x.2, 0 ≤ s ∧ s < (ws.length : Int) := by
  induction i with
  | zero => simp [leafs]
  | succ i ih =>
    obtain ⟨h1, h2, h3⟩ := ih (by omega)
    rw [leafs_succ]
    by_cases hp : 0 < ws.getD i 0
    · rw [if_pos hp]
      refine ⟨by simp; omega, by simp; omega, fun x hx => ?_⟩
      rcases List.mem_append.1 hx with hx | hx
      · exact h3 x hx
      · have hx : x = (ws.getD i 0, [(i : Int)]) := by simpa using hx
        subst hx
        refine ⟨by simp, fun s hs => ?_⟩
        have hs : s = (i : Int) := by simpa using hs
        subst hs
        omega
    · rw [if_neg hp, List.append_nil]
      exact ⟨by omega, by omega, h3⟩
theorem sum_erase : ∀ (l : List Nat) (i : Nat) (h : i < l.length), l[i] + (l.eraseIdx i).sum = l.sum
  | a :: r, 0, _ => by simp
  | a :: r, i + 1, h => by
    have := sum_erase r i (by simpa using h)
    simp only [List.getElem_cons_succ, List.eraseIdx_cons_succ, List.sum_cons]
    omega
theorem map_erase {α β : Type} (f : α → β) (l : List α) (i : Nat) : (l.eraseIdx i).map f = (l.map f).eraseIdx i := by
  rw [List.eraseIdx_eq_take_drop_succ, List.eraseIdx_eq_take_drop_succ, List.map_append, List.map_take, List.map_drop]
theorem leastAt_lt (ws : List Int) (h : 0 < ws.length) : leastAt ws < ws.length := leastTo_lt ws _ (Nat.le_refl _) h
theorem pick_mem (ns : List (Int × List Int)) (h : 0 < ns.length) : ∃ hl : leastAt (ns.map (·.1)) < ns.length, pickOf ns = ns[leastAt (ns.map (·.1))] := by
  have hl : leastAt (ns.map (·.1)) < ns.length := by simpa using leastAt_lt (ns.map (·.1)) (by simpa using h)
  exact ⟨hl, by unfold pickOf; simp [hl]⟩
theorem rest_good {n : Nat} {ns : List (Int × List Int)} (h : Good n ns) (h0 : 0 < ns.length) : Good n (restOf ns) ∧ (restOf ns).length = ns.length - 1 ∧ (pickOf ns).2.length + ((restOf ns).map (·.2.length)).sum = (ns.map (·.2.length)).sum ∧ (pickOf ns).2 ≠ [] ∧ ∀ s ∈ (pickOf ns).2, 0 ≤ s ∧ s < (n : Int) := by
  obtain ⟨hl, hp⟩ := pick_mem ns h0
  have hle : (restOf ns).length = ns.length - 1 := by unfold restOf; rw [List.length_eraseIdx_of_lt hl]
  have hs := sum_erase (ns.map (·.2.length)) (leastAt (ns.map (·.1))) (by simpa using hl)
  rw [← map_erase, List.getElem_map, ← hp] at hs
  have hm := h.2.2 (pickOf ns) (by rw [hp]; exact List.getElem_mem hl)
  refine ⟨⟨by have := h.1; omega, by have := h.2.1; unfold restOf; omega, fun x hx => h.2.2 x (List.mem_of_mem_eraseIdx hx)⟩, hle, hs, hm⟩
theorem merge_good {n : Nat} {ns : List (Int × List Int)} (h : Good n ns) (h1 : 1 < ns.length) : Good n (mergeOf ns) ∧ (mergeOf ns).length = ns.length - 1 ∧ (bothOf ns).length ≤ n ∧ ∀ s ∈ bothOf ns, 0 ≤ s ∧ s < (n : Int) := by
  obtain ⟨g1, l1, s1, m1, b1⟩ := rest_good h (by omega)
  obtain ⟨g2, l2, s2, m2, b2⟩ := rest_good g1 (by omega)
  have hb : ∀ s ∈ bothOf ns, 0 ≤ s ∧ s < (n : Int) := by
    intro s hs
    rcases List.mem_append.1 hs with hs | hs
    · exact b1 s hs
    · exact b2 s hs
  have hlen : (bothOf ns).length = (pickOf ns).2.length + (pickOf (restOf ns)).2.length := by unfold bothOf; rw [List.length_append]
  have hsum := h.2.1
  refine ⟨⟨?_, ?_, fun x hx => ?_⟩, ?_, by omega, hb⟩
  · unfold mergeOf; rw [List.length_append, List.length_singleton]; have := h.1; omega
  · unfold mergeOf; rw [List.map_append, List.sum_append]; simp; omega
  · rcases List.mem_append.1 hx with hx | hx
    · exact g2.2.2 x hx
    · have hx : x = (wrap64 ((pickOf ns).1 + (pickOf (restOf ns)).1), bothOf ns) := by simpa using hx
      subst hx
      exact ⟨by unfold bothOf; simp [m1], hb⟩
  · unfold mergeOf; rw [List.length_append, List.length_singleton]; omega
/-- A row of symbols, in memory of its own from bo on. -/
def SymR (w : World) (bo : Nat) (v : Value) (s : List Int) : Prop := (Kd.int .i64).R 3 w bo (fun _ => True) v s
theorem SymR.keep {w w1 : World} {bo : Nat} {v : Value} {s : List Int} (h : SymR w bo v s) (hm : ∀ k cells, bo ≤ k → k < w.heap.size → w.heap[k]? = some (.cells cells 3 (0, 0)) → w1.heap[k]? = w.heap[k]?) : SymR w1 bo v s := by
  refine Kd.R_mono (Kd.R_move (Kd.R_bound h) (fun k hk => ?_)) (fun _ _ => trivial)
  obtain ⟨_, h1, h2, q, hq, cells, hc⟩ := hk
  have e : q = 3 := by
    have : (Kd.int .i64).E = [] := rfl
    rw [this] at hq
    simpa using hq
  subst e
  exact hm k cells h1 h2 hc
theorem SymR.below {w w1 : World} {bo : Nat} {v : Value} {s : List Int} (h : SymR w bo v s) (hb : Below w.heap.size w w1) : SymR w1 bo v s := Kd.R_below h hb
/-- Nodes' rows of symbols. -/
def Symss (w : World) (bo : Nat) (l : List (Int × Value)) (ns : List (Int × List Int)) : Prop :=
  l.length = ns.length ∧ ∀ (j : Nat) (x : Int × Value) (y : Int × List Int), l[j]? = some x → ns[j]? = some y → x.1 = y.1 ∧ SymR w bo x.2 y.2
def NodesS (w : World) (base bo : Nat) (v : Value) (ns : List (Int × List Int)) : Prop := ∃ l : List (Int × Value), Nodes w base v l ∧ Symss w bo l ns
theorem Symss.keep {w w1 : World} {bo : Nat} {l : List (Int × Value)} {ns : List (Int × List Int)} (h : Symss w bo l ns) (hm : ∀ k cells, bo ≤ k → k < w.heap.size → w.heap[k]? = some (.cells cells 3 (0, 0)) → w1.heap[k]? = w.heap[k]?) : Symss w1 bo l ns :=
  ⟨h.1, fun j x y hx hy => ⟨(h.2 j x y hx hy).1, (h.2 j x y hx hy).2.keep hm⟩⟩
theorem Symss.grown {w w1 : World} {bo : Nat} {l : List (Int × Value)} {ns : List (Int × List Int)} (h : Symss w bo l ns) {row : Option Nat} (hg : w.grownBy w1 row) (hr : ∀ g, row = some g → ∃ cs, w.heap[g]? = some (.cells cs 126 (0, 0))) : Symss w1 bo l ns :=
  h.keep (fun k cells _ hk hc => hg.block k hk (fun e => by
    obtain ⟨cs, h2⟩ := hr k e.symm
    rw [hc] at h2
    injection h2 with h2
    injection h2 with _ h3
    exact absurd h3 (by decide)))
theorem Symss.weights {w : World} {bo : Nat} {l : List (Int × Value)} {ns : List (Int × List Int)} (h : Symss w bo l ns) : l.map (·.1) = ns.map (·.1) := by
  apply List.ext_getElem?
  intro j
  rw [List.getElem?_map, List.getElem?_map]
  by_cases hj : j < l.length
  · have hj2 : j < ns.length := by rw [← h.1]; exact hj
    rw [List.getElem?_eq_getElem hj, List.getElem?_eq_getElem hj2]
    have := (h.2 j _ _ (List.getElem?_eq_getElem hj) (List.getElem?_eq_getElem hj2)).1
    simp [this]
  · rw [List.getElem?_eq_none (by omega), List.getElem?_eq_none (by have := h.1; omega)]
    rfl
theorem Symss.erase {w : World} {bo : Nat} {l : List (Int × Value)} {ns : List (Int × List Int)} (h : Symss w bo l ns) (i : Nat) (hi : i < ns.length) : Symss w bo (l.eraseIdx i) (ns.eraseIdx i) := by
  refine ⟨by rw [List.length_eraseIdx_of_lt (by have := h.1; omega), List.length_eraseIdx_of_lt hi, h.1], fun j x y hx hy => ?_⟩
  rw [List.getElem?_eraseIdx] at hx hy
  by_cases hj : j < i
  · rw [if_pos hj] at hx hy
    exact h.2 j x y hx hy
  · rw [if_neg hj] at hx hy
    exact h.2 (j + 1) x y hx hy
theorem Symss.snoc {w : World} {bo : Nat} {l : List (Int × Value)} {ns : List (Int × List Int)} (h : Symss w bo l ns) {x : Int × Value} {y : Int × List Int} (hx : x.1 = y.1 ∧ SymR w bo x.2 y.2) : Symss w bo (l ++ [x]) (ns ++ [y]) := by
  refine ⟨by simp [h.1], fun j a b ha hb => ?_⟩
  by_cases hj : j < l.length
  · rw [List.getElem?_append_left hj] at ha
    rw [List.getElem?_append_left (by have := h.1; omega)] at hb
    exact h.2 j a b ha hb
  · rw [List.getElem?_append_right (by omega)] at ha
    rw [List.getElem?_append_right (by have := h.1; omega), ← h.1] at hb
    obtain ⟨n, hn⟩ : ∃ n, n = j - l.length := ⟨_, rfl⟩
    rw [← hn] at ha hb
    cases n with
    | zero =>
      simp at ha hb
      subst ha; subst hb
      exact hx
    | succ n => simp at ha
theorem nodes_type {w : World} {base : Nat} {v : Value} {rows : List (List Value)} (h : (Kd.raw 2).R 126 w base (fun _ => True) v rows) : ∀ g, v.ownBlock = some g → ∃ cs, w.heap[g]? = some (.cells cs 126 (0, 0)) := by
  intro g hg
  obtain ⟨inner, ho⟩ := Kd.R_own h
  exact own_typed ho g hg
theorem NodesS.below {w w1 : World} {base bo : Nat} {v : Value} {ns : List (Int × List Int)} (h : NodesS w base bo v ns) (hb : Below w.heap.size w w1) : NodesS w1 base bo v ns := by
  obtain ⟨l, h1, h2⟩ := h
  exact ⟨l, Kd.R_below h1 hb, h2.keep (fun k _ _ hk _ => hb.block k hk)⟩
/-- What is written into a row of ints that lies ahead of bo says nothing of the nodes. -/
theorem NodesS.far {w : World} {base bo : Nat} {v : Value} {ns : List (Int × List Int)} (h : NodesS w base bo v ns) {go : Nat} {cs : Array Value} (hgo : w.heap[go]? = some (.cells cs 3 (0, 0))) (hlt : go < bo) (j : Nat) (u : Value) : NodesS (w.setCell ⟨go, j, none⟩ u) base bo v ns := by
  obtain ⟨l, h1, h2⟩ := h
  refine ⟨l, Kd.R_mono (Kd.R_far (Kd.R_bound h1) (fun k hk => ?_) u) (fun _ _ => trivial), h2.keep (fun k _ hb _ _ => Below.heap_setCell w ⟨go, j, none⟩ u k (by show k ≠ go; omega))⟩
  obtain ⟨_, _, _, q, hq, cells, hc⟩ := hk
  have e : q = 126 := by
    have : (Kd.raw 2).E = [] := rfl
    rw [this] at hq
    simpa using hq
  subst e
  show k ≠ go
  rintro rfl
  rw [hc] at hgo
  injection hgo with hgo
  injection hgo with _ h3
  exact absurd h3 (by decide)
theorem NodesS.lower {w : World} {base base' bo : Nat} {v : Value} {ns : List (Int × List Int)} (h : NodesS w base bo v ns) (hb : base' ≤ base) : NodesS w base' bo v ns := by
  obtain ⟨l, h1, h2⟩ := h
  exact ⟨l, Kd.R_lower h1 hb, h2⟩
theorem NodesS.length {w : World} {base bo : Nat} {v : Value} {ns : List (Int × List Int)} (h : NodesS w base bo v ns) : ∃ A c, v = .slice A ns.length c ∧ ns.length ≤ c := by
  obtain ⟨l, h1, h2⟩ := h
  obtain ⟨A, c, e⟩ := Kd.R_slice h1
  subst e
  have h3 := (Kd.R_reads' h1).2.1
  rw [nodeRows_length, h2.1] at *
  exact ⟨A, c, rfl, h3⟩
theorem least_of (bo : Nat) (v : Value) (ns : List (Int × List Int)) (w0 w : World) (hN : NodesS w w0.heap.size bo v ns) (h0 : 0 < ns.length) (hB : Below w0.heap.size w0 w) (hl : ns.length ≤ 1000000) :
    Calls Try.prog 71 #[v] w fun e w' => ∃ xv v' g, e = .returned (.tuple #[.agg #[.int .i64 (pickOf ns).1, xv], v']) ∧ SymR w' bo xv (pickOf ns).2 ∧ NodesS w' w0.heap.size bo v' (restOf ns) ∧ Below w0.heap.size w0 w' ∧ v.ownBlock = some g ∧ g < w.heap.size ∧ w.grownBy w' (some g) ∧ v'.ownBlock = some g ∧ ∃ cs, w.heap[g]? = some (.cells cs 126 (0, 0)) := by
  obtain ⟨l, h1, h2⟩ := hN
  obtain ⟨g, c, e, _, hgl, hgt⟩ := Kd.R_form h1 (by rw [nodeRows_length, h2.1]; exact h0)
  subst e
  rw [nodeRows_length] at *
  have hw := h2.weights
  refine (tree_least g c l w0 w (by rw [Nodes]; exact h1) (by rw [h2.1]; exact h0) hB (by rw [h2.1]; exact hl) (fun x hx => ?_)).mono ?_
  · obtain ⟨j, hj⟩ := List.mem_iff_getElem?.1 hx
    have hjl : j < l.length := (List.getElem?_eq_some_iff.1 hj).1
    obtain ⟨A, c', e⟩ := Kd.R_slice (h2.2 j x _ hj (List.getElem?_eq_getElem (by rw [← h2.1]; exact hjl))).2
    exact ⟨A, _, c', e⟩
  · rintro e w' ⟨x, hx, rfl, hN', hB', hg⟩
    rw [hw] at hx hN'
    obtain ⟨hl1, hp⟩ := pick_mem ns h0
    have hxy := h2.2 _ x _ hx (List.getElem?_eq_getElem hl1)
    rw [← hp] at hxy
    have hgt' : ∀ g', some g = some g' → ∃ cs, w.heap[g']? = some (.cells cs 126 (0, 0)) := fun g' e => by injection e with e; subst e; exact hgt
    have hS := (h2.erase _ hl1).grown hg hgt'
    refine ⟨x.2, _, g, by rw [hxy.1], ?_, ⟨_, hN', hS⟩, hB', by simp [Value.ownBlock], hgl, hg, by simp [Value.ownBlock], hgt⟩
    refine hxy.2.keep (fun k cells _ hk hc => hg.block k hk (fun e => ?_))
    obtain ⟨cs, h5⟩ := hgt' k e.symm
    rw [hc] at h5
    injection h5 with h5
    injection h5 with _ h6
    exact absurd h6 (by decide)
theorem lit_row (w : World) (bo : Nat) (i : Int) (hb : bo ≤ w.heap.size) : SymR (w.alloc (.cells #[.int .i64 i] 3)) bo (.slice (some ⟨w.heap.size, 0, none⟩) 1 1) [i] := by
  refine ⟨fun _ _ => trivial, [.int .i64 i], ⟨rfl, .inr ⟨w.heap.size, 1, #[.int .i64 i], rfl, hb, Array.getElem?_push_size, Nat.le_refl _, by decide, rfl, rfl⟩⟩, rfl, fun j p hj => ?_⟩
  cases j with
  | zero =>
    simp at hj
    subst hj
    rfl
  | succ j => simp at hj
theorem node_info : (Try.prog.info? 126).map (fun i => (i.zero, i.size, i.bytes)) = some (some (.agg #[.int .i64 0, .slice none 0 0]), 2, 32) := by kernel_rfl
/-- A node put behind the others. -/
theorem NodesS.snoc {w w1 : World} {base bo : Nat} {v v1 : Value} {l : List (Int × Value)} {ns : List (Int × List Int)} {x : Int × Value} {y : Int × List Int} (h1 : Nodes w base v l) (h : Symss w bo l ns) (hN : (Kd.raw 2).R 126 w1 base (fun _ => True) v1 (nodeRows l ++ [nodeCells x])) (hg : w.grownBy w1 v.ownBlock) (hx : x.1 = y.1 ∧ SymR w bo x.2 y.2) : NodesS w1 base bo v1 (ns ++ [y]) := by
  refine ⟨l ++ [x], ?_, (h.snoc hx).grown hg (nodes_type h1)⟩
  rw [Nodes, nodeRows, List.map_append]
  exact hN
/-- All blocks of ints are as they were. -/
def Keeps (w w1 : World) : Prop := w.heap.size ≤ w1.heap.size ∧ ∀ (k : Nat) (cells : Array Value), k < w.heap.size → w.heap[k]? = some (.cells cells 3 (0, 0)) → w1.heap[k]? = w.heap[k]?
theorem Keeps.trans {a b c : World} (h : Keeps a b) (k : Keeps b c) : Keeps a c :=
  ⟨Nat.le_trans h.1 k.1, fun i cells hi hc => (k.2 i cells (Nat.lt_of_lt_of_le hi h.1) ((h.2 i cells hi hc).trans hc)).trans (h.2 i cells hi hc)⟩
theorem Keeps.below {w w1 : World} (hb : Below w.heap.size w w1) : Keeps w w1 := ⟨hb.size, fun k _ hk _ => hb.block k hk⟩
theorem not_both {w : World} {k g : Nat} {cells cs : Array Value} (hc : w.heap[k]? = some (.cells cells 3 (0, 0))) (hg : w.heap[g]? = some (.cells cs 126 (0, 0))) : k ≠ g := by
  rintro rfl
  rw [hc] at hg
  injection hg with hg
  injection hg with _ h3
  exact absurd h3 (by decide)
theorem Keeps.grown {w w1 : World} {g : Nat} (hg : w.grownBy w1 (some g)) (hr : ∃ cs, w.heap[g]? = some (.cells cs 126 (0, 0))) : Keeps w w1 := by
  obtain ⟨cs, hr⟩ := hr
  exact ⟨hg.size, fun k cells hk hc => hg.block k hk (fun e => by injection e with e; exact not_both hc hr e)⟩
theorem Keeps.set {w : World} {b : Nat} {cs : Array Value} (hb : w.heap[b]? = some (.cells cs 126 (0, 0))) (j : Nat) (u : Value) : Keeps w (w.setCell ⟨b, j, none⟩ u) :=
  ⟨by simp [World.setCell], fun k cells _ hc => Below.heap_setCell w ⟨b, j, none⟩ u k (not_both hc hb)⟩
theorem SymR.keeps {w w1 : World} {bo : Nat} {v : Value} {s : List Int} (h : SymR w bo v s) (hk : Keeps w w1) : SymR w1 bo v s := h.keep (fun k cells _ hlt hc => hk.2 k cells hlt hc)
theorem NodesS.keeps {w w1 : World} {base bo : Nat} {v : Value} {ns : List (Int × List Int)} (h : NodesS w base bo v ns) (hk : Keeps w w1) (hv : ∀ k, v.ownBlock = some k → w1.heap[k]? = w.heap[k]?) : NodesS w1 base bo v ns := by
  obtain ⟨l, h1, h2⟩ := h
  exact ⟨l, Kd.raw_any (Kd.R_move (Kd.raw_tight h1) (fun k hk => hv k hk.symm)), h2.keep (fun k cells _ hlt hc => hk.2 k cells hlt hc)⟩
theorem NodesS.lt {w : World} {base bo : Nat} {v : Value} {ns : List (Int × List Int)} (h : NodesS w base bo v ns) {g : Nat} (hv : v.ownBlock = some g) : g < w.heap.size := by
  obtain ⟨l, h1, h2⟩ := h
  exact Kd.R_lt h1 g hv
/-- A node laid into a variable's block. -/
theorem node_put {w : World} {b : Nat} {cs : Array Value} (hb : w.heap[b]? = some (.cells cs 126 (0, 0))) (hs : cs = #[.int .i64 0, .slice none 0 0]) (u v : Value) :
    ((w.setCell ⟨b, 0, none⟩ u).setCell ⟨b, 1, none⟩ v).heap[b]? = some (.cells #[u, v] 126 (0, 0)) := by
  subst hs
  exact blk_put (cs := #[u, .slice none 0 0]) (blk_put (cs := #[.int .i64 0, .slice none 0 0]) hb 0 _ rfl) 1 _ rfl
set_option maxHeartbeats 8000000 in
set_option maxRecDepth 100000 in
theorem once_calls (A0 : Option Addr) (c0 : Nat) (l0 : List Int) (w : World) (hr0 : Kd.C (Kd.int .i64) w A0 l0.length l0) (hc0 : l0.length ≤ c0) (hl : l0.length ≤ 300) :
    Calls Try.prog 56 #[.slice A0 l0.length c0] w fun e w' => ∃ v, e = .returned v ∧ Kd.R (Kd.int .i64) 3 w' w.heap.size (fun _ => True) v (onceOf l0) ∧ Below w.heap.size w w' := by
  have HR := Aside0.mk hr0
  have HC := Aside0.mk hc0
  obtain ⟨L, hL⟩ : ∃ L, L = l0.length := ⟨_, rfl⟩
  have HL := Aside0.mk hL
  rw [← hL] at hl ⊢
  clear hr0 hc0 hL
  go_enter Try.func56, Try.ntmps56
  go_wp2_with (refine Kd.R_make (Kd.int .i64) (w0 := w) w.heap.size 3 rfl rfl 73 (.tmp 13) (.tmp 13) rfl (L : Int) rfl rfl Try.underlying73 (.int .i64 0) 8 info3 rfl (by decide) (by decide) (0 : Int) (ok := fun _ => True) (okp := fun _ => False) rfl (fun _ hk => hk.elim) trivial (by omega) (by omega) (Below.refl _ _) (Nat.le_refl _) ?_; intro v1 wB ho hb hg hat; (have HO := Aside0.mk ho); (have HB := Aside0.mk hb); (have HG := Aside0.mk hg); (have HAT := Aside0.mk hat); clear ho hb hg hat)
  rw [Int.toNat_natCast] at HO
  go_loopg [4, 17] L (fun kq v4 v17 w' => ∃ i : Nat, i ≤ L ∧ v17 = .int .i64 i ∧ Aside0 (kq + i = L) ∧ Aside0 (NodesS w' wB.heap.size wB.heap.size v4 (leafs l0 i)) ∧ Aside0 (Below wB.heap.size wB w'))
  case atStart => exact ⟨0, by omega, rfl, ⟨rfl⟩, ⟨[], Kd.R_nil _ _ _ _ _, rfl, fun j x y hx _ => by simp at hx⟩, ⟨Below.refl _ _⟩⟩
  case round =>
    obtain ⟨i, hi, rfl, HK, HN, HBr⟩ := hrel
    by_cases hlt : i < L
    · have HBw := Aside0.mk (show Below w.heap.size w wr from below_then HB.out HB.out.size HBr.out)
      obtain ⟨ad, rfl, hcell⟩ := Kd.at_int (Kd.C_below HR.out HBw.out) (i : Int) (by omega) (by rw [← HL.out]; omega)
      have e : rd l0 (i : Int) = l0.getD i 0 := by unfold rd; rw [Int.toNat_natCast]
      rw [Int.toNat_natCast, e] at hcell
      have HS := Aside0.mk (leafs_succ l0 i)
      generalize l0.getD i 0 = x at hcell HS
      clear e
      by_cases hx : 0 < x
      · have hd : decide (0 < x) = true := decide_eq_true hx
        obtain ⟨A4, c4, e4, hc4⟩ := HN.out.length
        subst e4
        obtain ⟨l, hNl, hSl⟩ := HN.out
        have HW2 := Aside0.mk (show Below wr.heap.size wr (wr.alloc (Obj.cells #[Value.int IntKind.i64 (i : Int)] 3)) from (Below.refl _ _).alloc (Nat.le_refl _) _)
        have HNl := Aside0.mk (show Nodes (wr.alloc (Obj.cells #[Value.int IntKind.i64 (i : Int)] 3)) wB.heap.size _ l from Kd.R_below hNl HW2.out)
        have HSl := Aside0.mk (show Symss (wr.alloc (Obj.cells #[Value.int IntKind.i64 (i : Int)] 3)) wB.heap.size l _ from hSl.keep (fun k _ _ hk _ => HW2.out.block k hk))
        have HLit := Aside0.mk (lit_row wr wB.heap.size (i : Int) HBr.out.size)
        have HB2 := Aside0.mk (show Below wB.heap.size wB (wr.alloc (Obj.cells #[Value.int IntKind.i64 (i : Int)] 3)) from below_then HBr.out HBr.out.size HW2.out)
        have HLL := Aside0.mk (show l.length ≤ 300 from by have := (leafs_good l0 i (by have := HL.out; omega)).1; have := hSl.1; omega)
        clear hNl hSl
        go_wp2_with ((with_reducible refine gate_builtin (b := .append) (xs := #[.tmp 24, .tmp 29]) rfl ?_); at_builtin; refine Kd.R_append (Kd.raw 2) (w0 := wB) wB.heap.size rfl (.tmp 24) (.tmp 29) 124 126 (.agg #[.int .i64 0, .slice none 0 0]) 32 rfl Try.underlying124 node_info rfl (by decide) (by decide) (.slice A4 (leafs l0 i).length c4) (nodeRows l) (nodeCells (x, .slice (some ⟨wr.heap.size, 0, none⟩) 1 1)) (nodeCells (x, .slice (some ⟨wr.heap.size, 0, none⟩) 1 1)) (fun _ => True) (fun _ => False) rfl (by simp; rfl) ⟨rfl, rfl, by intro u hu; simp [nodeCells] at hu; rcases hu with rfl | rfl <;> rfl⟩ (fun _ hk => hk.elim) (fun _ _ => trivial) HNl.out HB2.out HB2.out.size (by rw [nodeRows_length]; have := HLL.out; omega) ?_; intro v5 w5 ho hb hg hat; (have HN5 := Aside0.mk (And.intro ho (And.intro hb hg))); clear ho hb hg hat)
        obtain ⟨ho, hb, hg⟩ := HN5.out
        have HN6 := Aside0.mk (NodesS.snoc (y := (x, [(i : Int)])) HNl.out HSl.out ho hg ⟨rfl, HLit.out⟩)
        go_roundg (gk - 1)
        case measure => have := HK.out; omega
        case rel => exact ⟨i + 1, by omega, by go_num, ⟨by have := HK.out; omega⟩, ⟨by rw [HS.out, if_pos hx]; exact HN6.out⟩, ⟨hb⟩⟩
      · have hd : decide (0 < x) = false := decide_eq_false hx
        go_wp2_with fail
        go_roundg (gk - 1)
        case measure => have := HK.out; omega
        case rel => exact ⟨i + 1, by omega, by go_num, ⟨by have := HK.out; omega⟩, ⟨by rw [HS.out, if_neg (by omega), List.append_nil]; exact HN.out⟩, HBr⟩
    · have hiL : i = L := by omega
      subst hiL
      obtain ⟨ns, hns⟩ : ∃ ns, ns = leafs l0 i := ⟨_, rfl⟩
      rw [← hns] at HN
      have HNS := Aside0.mk hns
      have HGd := Aside0.mk (show Good i ns from by
        have := leafs_good l0 i (by rw [HL.out]; exact Nat.le_refl _)
        rw [← hns, ← HL.out] at this
        exact this)
      clear hns
      obtain ⟨A4, c4, e4, hc4⟩ := HN.out.length
      subst e4
      go_upto_if 34 with fail
      go_cut [34] (fun v34 wc => ∃ k out, Aside0 (onceFrom k ns out = onceOf l0 ∧ ns.length ≤ k + 1) ∧ Aside0 (Kd.R (Kd.int .i64) 3 wc w.heap.size (fun _ => True) v1 out ∧ out.length = i) ∧ Aside0 (NodesS wc w.heap.size wB.heap.size (.slice A4 ns.length c4) ns) ∧ Aside0 (Below w.heap.size w wc) ∧ Aside0 (wB.heap.size ≤ wc.heap.size))
      case first =>
        have HOr := Aside0.mk (Kd.R_below HO.out HBr.out)
        have HBw := Aside0.mk (show Below w.heap.size w wr from below_then HB.out HB.out.size HBr.out)
        by_cases h1 : ns.length = 1
        · have hd : ((ns.length : Int) == 1) = true := by rw [beq_iff_eq]; omega
          obtain ⟨l, hNl, hSl⟩ := HN.out
          obtain ⟨go, co, e1, hgo1, hgo2, ocs, hocs⟩ := Kd.R_form HO.out (by rw [List.length_replicate]; have := HGd.out.1; omega)
          rw [List.length_replicate] at e1
          subst e1
          obtain ⟨g, c, e, _, _, _⟩ := Kd.R_form hNl (by rw [nodeRows_length, hSl.1]; omega)
          injection e with e _ ec
          subst e
          obtain ⟨y, hy⟩ : ∃ y, ns[0]? = some y := ⟨_, List.getElem?_eq_getElem (by omega)⟩
          obtain ⟨x, hx⟩ : ∃ x, l[0]? = some x := ⟨_, List.getElem?_eq_getElem (by rw [hSl.1]; omega)⟩
          obtain ⟨hxy, hsy⟩ := hSl.2 0 x y hx hy
          obtain ⟨hyn, hyb⟩ := HGd.out.2.2 y (List.mem_of_getElem? hy)
          have hn1 := (node_at (Kd.R_reads' hNl).2.2 hx).2
          rw [Nat.zero_mul, Nat.zero_add] at hn1
          have hyl : 0 < y.2.length := List.length_pos_iff.2 hyn
          obtain ⟨gs, cs, es, _, _, _⟩ := Kd.R_form hsy hyl
          rw [es] at hn1 hsy
          have hs1 := (Kd.R_celln (0 : Int) hsy 0 (by omega) (by omega)).1
          have hsb := hyb (rd y.2 0) (by unfold rd; rw [show ((0 : Int)).toNat = 0 from rfl]; rw [List.getD_eq_getElem?_getD, List.getElem?_eq_getElem hyl]; exact List.getElem_mem hyl)
          have hrd : rdOf (0 : Int) y.2 0 = rd y.2 0 := rfl
          rw [hrd, show ((0 : Int)).toNat = 0 from rfl] at hs1
          have HF := Aside0.mk (show onceOf l0 = (List.replicate i 0).set (rd y.2 0).toNat 1 from by
            unfold onceOf
            rw [← HL.out, ← HNS.out, if_pos h1, List.getD_eq_getElem?_getD, hy]
            rfl)
          generalize rd y.2 0 = sv at hs1 hsb HF
          clear hrd
          obtain ⟨hs0, hsi⟩ := hsb
          obtain ⟨hoc, hof⟩ := Kd.R_celln (0 : Int) HOr.out sv hs0 hsi
          have HR2 := Aside0.mk (Kd.R_putn HOr.out sv (1 : Int))
          have hocr := (HBr.out.block go hgo2).trans hocs
          have HN2 := Aside0.mk ((HN.out.far hocr hgo2 sv.toNat (.int .i64 1)).lower HB.out.size)
          have HB2 := Aside0.mk (show Below w.heap.size w (wr.setCell ⟨go, sv.toNat, none⟩ (.int .i64 1)) from HBw.out.setCell (p := ⟨go, sv.toNat, none⟩) hgo1 _)
          have HS2 := Aside0.mk (show wB.heap.size ≤ (wr.setCell ⟨go, sv.toNat, none⟩ (.int .i64 1)).heap.size from by have := HBr.out.size; simp [World.setCell]; omega)
          have hyl2 : (0 : Int) < (y.2.length : Int) := by omega
          have hnl2 : (0 : Int) < (ns.length : Int) := by omega
          clear hy hx hxy hsy hyn hyb hocs hocr hgo1 hgo2 hNl hSl es
          go_wp2_with fail
          go_meet
          case rel => exact ⟨0, _, ⟨HF.out.symm, by omega⟩, ⟨HR2.out, by simp⟩, HN2, HB2, HS2⟩
        · have hd : ((ns.length : Int) == 1) = false := by rw [beq_eq_false_iff_ne]; omega
          go_wp2_with fail
          go_meet
          case rel => exact ⟨ns.length, List.replicate i 0, ⟨by
            unfold onceOf
            rw [← HL.out, ← HNS.out, if_neg h1], by omega⟩, ⟨HOr.out, by simp⟩, ⟨HN.out.lower HB.out.size⟩, HBw, ⟨HBr.out.size⟩⟩
      case rest =>
        obtain ⟨k0, out0, HF0, HO0, HN0, HB0, HS0⟩ := hcut
        have HGo := Aside0.mk (Kd.R_lt HO.out)
        clear HN HBr HO HAT HG
        go_wp2_with fail
        go_loopg [4] ns.length (fun kq v4 w' => ∃ k ns' out, Aside0 (onceFrom k ns' out = onceOf l0 ∧ ns'.length ≤ k + 1) ∧ Aside0 (kq = ns'.length) ∧ Aside0 (Good i ns') ∧ Aside0 (SymR w' w.heap.size v1 out ∧ out.length = i) ∧ Aside0 (NodesS w' w.heap.size wB.heap.size v4 ns') ∧ Aside0 (Below w.heap.size w w') ∧ Aside0 (wB.heap.size ≤ w'.heap.size))
        case atStart => exact ⟨k0, ns, out0, HF0, ⟨rfl⟩, HGd, HO0, HN0, HB0, HS0⟩
        case round =>
          clear HF0 HO0 HN0 HB0 HS0
          obtain ⟨k, ms, out, HF, HK, HGm, HOm, HNm, HBm, HSm⟩ := hrel
          obtain ⟨A4, c4, e4, hc4⟩ := HNm.out.length
          subst e4
          by_cases h1 : 1 < ms.length
          · have hd : decide ((1 : Int) < (ms.length : Int)) = true := decide_eq_true (by omega)
            have hd2 : decide (1 < ms.length) = true := decide_eq_true h1
            go_wp2_with fail
            -- the two variables' blocks
            obtain ⟨wA, hwA⟩ : ∃ wA, wA = (wr.alloc (Obj.cells #[Value.int IntKind.i64 0, Value.slice none 0 0] 126)).alloc (Obj.cells #[Value.int IntKind.i64 0, Value.slice none 0 0] 126) := ⟨_, rfl⟩
            have HbA := Aside0.mk (show Below wr.heap.size wr wA from by rw [hwA]; exact ((Below.refl _ _).alloc (Nat.le_refl _) _).alloc (by simp) _)
            have kA : wA.heap[wr.heap.size]? = some (.cells #[.int .i64 0, .slice none 0 0] 126 (0, 0)) := by
              rw [hwA]
              exact blk_alloc (Array.getElem?_push_size) _
            have kB : wA.heap[wr.heap.size + 1]? = some (.cells #[.int .i64 0, .slice none 0 0] 126 (0, 0)) := by
              rw [hwA]
              have h := Array.getElem?_push_size (xs := (wr.alloc (Obj.cells #[Value.int IntKind.i64 0, Value.slice none 0 0] 126)).heap) (x := Obj.cells #[Value.int IntKind.i64 0, Value.slice none 0 0] 126)
              have e : (wr.alloc (Obj.cells #[Value.int IntKind.i64 0, Value.slice none 0 0] 126)).heap.size = wr.heap.size + 1 := by simp
              rw [e] at h
              exact h
            rw [← hwA]
            clear hwA
            have HKp := Aside0.mk (Keeps.below HbA.out)
            have HN1 := Aside0.mk (HNm.out.below HbA.out)
            have HBa := Aside0.mk (show Below w.heap.size w wA from below_then HBm.out HBm.out.size HbA.out)
            refine (least_of wB.heap.size _ ms w wA HN1.out (by omega) HBa.out (by have := HGm.out.1; omega)).mono ?_
            rintro e w1 ⟨xa, va, g, rfl, hsa, hna, hba, hvg, _, hgr, hva, hgt⟩
            have hgl := HNm.out.lt hvg
            obtain ⟨Aa, ca, ea⟩ := Kd.R_slice hsa
            subst ea
            obtain ⟨Av, cv, ev, _⟩ := hna.length
            subst ev
            have kA1 := blk_grown kA hgr (by simp; omega)
            have kB1 := blk_grown kB hgr (by simp; omega)
            have HKp1 := Aside0.mk (HKp.out.trans (Keeps.grown hgr hgt))
            clear kA kB hgr hgt
            have ha1 : w1.cell? ⟨wr.heap.size, 0, none⟩ = some (.int .i64 0) := by rw [cell_of_row w1 _ _ _ _ _ kA1]; rfl
            have ha2 : w1.cell? ⟨wr.heap.size, 1, none⟩ = some (.slice none 0 0) := by rw [cell_of_row w1 _ _ _ _ _ kA1]; rfl
            have hfa1 : w1.frozen? ⟨wr.heap.size, 0, none⟩ = false := blk_frozen kA1 _
            have hfa2 : w1.frozen? ⟨wr.heap.size, 1, none⟩ = false := blk_frozen kA1 _
            have HA1 := Aside0.mk (And.intro kA1 kB1)
            have HS1 := Aside0.mk (And.intro hsa hna)
            have HB1 := Aside0.mk hba
            have HV1 := Aside0.mk (And.intro hva hgl)
            clear kA1 kB1 hsa hna hba hva hgl hvg
            obtain ⟨p1, hp1⟩ : ∃ p, p = pickOf ms := ⟨_, rfl⟩
            obtain ⟨m1, hm1⟩ : ∃ m, m = restOf ms := ⟨_, rfl⟩
            rw [← hp1, ← hm1] at HS1
            rw [← hp1]
            (try rw [← hm1])
            have HP1 := Aside0.mk (And.intro hp1 hm1)
            clear hp1 hm1
            go_wp2_with fail
            clear ha1 ha2 hfa1 hfa2
            obtain ⟨w2, hw2⟩ : ∃ w2, w2 = (w1.setCell ⟨wr.heap.size, 0, none⟩ (.int .i64 p1.1)).setCell ⟨wr.heap.size, 1, none⟩ (.slice Aa p1.2.length ca) := ⟨_, rfl⟩
            have hset : ∀ k, k ≠ wr.heap.size → w2.heap[k]? = w1.heap[k]? := fun k hk => by
              rw [hw2]
              exact (Below.heap_setCell _ ⟨wr.heap.size, 1, none⟩ _ k hk).trans (Below.heap_setCell _ ⟨wr.heap.size, 0, none⟩ _ k hk)
            have kA2 : w2.heap[wr.heap.size]? = some (.cells #[.int .i64 p1.1, .slice Aa p1.2.length ca] 126 (0, 0)) := by
              rw [hw2]
              exact node_put HA1.out.1 rfl _ _
            have kB2 := (hset (wr.heap.size + 1) (by omega)).trans HA1.out.2
            have hk2 : Keeps w1 w2 := by
              rw [hw2]
              exact (Keeps.set HA1.out.1 0 _).trans (Keeps.set (blk_put HA1.out.1 0 _ rfl) 1 _)
            have hbl2 : Below wr.heap.size w1 w2 := by
              rw [hw2]
              exact Below.setCell (p := ⟨wr.heap.size, 1, none⟩) (Below.setCell (p := ⟨wr.heap.size, 0, none⟩) (Below.refl _ _) (Nat.le_refl _) _) (Nat.le_refl _) _
            have hN2 := HS1.out.2.keeps hk2 (fun k hk => hset k (by have h := HV1.out.1; rw [← HP1.out.2] at h; rw [h] at hk; injection hk with hk; have := HV1.out.2; omega))
            have HB2 := Aside0.mk (show Below w.heap.size w w2 from HB1.out.trans ⟨hbl2.os, hbl2.tape, hbl2.output, hbl2.size, fun k hk => hbl2.block k (by have := HBm.out.size; omega)⟩)
            have HSa2 := Aside0.mk (HS1.out.1.keeps hk2)
            have HK2 := Aside0.mk (HKp1.out.trans hk2)
            rw [← hw2]
            clear hw2 hset hk2 hbl2 HS1 HB1 HKp1 HKp HN1 HBa HA1
            have hm1l : m1.length = ms.length - 1 ∧ Good i m1 := by
              have h := rest_good HGm.out (by omega)
              rw [← HP1.out.2] at h
              exact ⟨h.2.1, h.1⟩
            refine (least_of wB.heap.size _ m1 w w2 hN2 (by omega) HB2.out (by have := hm1l.2.1; omega)).mono ?_
            rintro e w3 ⟨xb, vb, g', rfl, hsb, hnb, hbb, hvg, _, hgr, hvb, hgt⟩
            have eg : g' = g := by have h := HV1.out.1; rw [← HP1.out.2] at h; rw [h] at hvg; injection hvg with hvg; exact hvg.symm
            subst eg
            obtain ⟨Ab, cb, eb⟩ := Kd.R_slice hsb
            subst eb
            obtain ⟨Aw, cw, ew, _⟩ := hnb.length
            subst ew
            have hgl := HV1.out.2
            have kA3 := blk_grown kA2 hgr (by simp; omega)
            have kB3 := blk_grown kB2 hgr (by simp; omega)
            have HK3 := Aside0.mk (HK2.out.trans (Keeps.grown hgr hgt))
            have HSa3 := Aside0.mk (HSa2.out.keeps (Keeps.grown hgr hgt))
            have ha1 : w3.cell? ⟨wr.heap.size + 1, 0, none⟩ = some (.int .i64 0) := by rw [cell_of_row w3 _ _ _ _ _ kB3]; rfl
            have ha2 : w3.cell? ⟨wr.heap.size + 1, 1, none⟩ = some (.slice none 0 0) := by rw [cell_of_row w3 _ _ _ _ _ kB3]; rfl
            have hfa1 : w3.frozen? ⟨wr.heap.size + 1, 0, none⟩ = false := blk_frozen kB3 _
            have hfa2 : w3.frozen? ⟨wr.heap.size + 1, 1, none⟩ = false := blk_frozen kB3 _
            have HA3 := Aside0.mk (And.intro kA3 kB3)
            have HS3 := Aside0.mk (And.intro hsb hnb)
            have HB3 := Aside0.mk hbb
            have HV3 := Aside0.mk (And.intro hvb hgl)
            clear kA2 kB2 kA3 kB3 hsb hnb hbb hvb hgl hgr hgt hN2 HSa2 HK2 hvg
            obtain ⟨p2, hp2⟩ : ∃ p, p = pickOf m1 := ⟨_, rfl⟩
            obtain ⟨m2, hm2⟩ : ∃ m, m = restOf m1 := ⟨_, rfl⟩
            rw [← hp2, ← hm2] at HS3
            rw [← hp2]
            (try rw [← hm2])
            have HP2 := Aside0.mk (And.intro hp2 hm2)
            clear hp2 hm2
            go_upto_region 15 with fail
            clear ha1 ha2 hfa1 hfa2
            obtain ⟨w4, hw4⟩ : ∃ w4, w4 = (w3.setCell ⟨wr.heap.size + 1, 0, none⟩ (.int .i64 p2.1)).setCell ⟨wr.heap.size + 1, 1, none⟩ (.slice Ab p2.2.length cb) := ⟨_, rfl⟩
            have hset : ∀ k, k ≠ wr.heap.size + 1 → w4.heap[k]? = w3.heap[k]? := fun k hk => by
              rw [hw4]
              exact (Below.heap_setCell _ ⟨wr.heap.size + 1, 1, none⟩ _ k hk).trans (Below.heap_setCell _ ⟨wr.heap.size + 1, 0, none⟩ _ k hk)
            have kB4 : w4.heap[wr.heap.size + 1]? = some (.cells #[.int .i64 p2.1, .slice Ab p2.2.length cb] 126 (0, 0)) := by
              rw [hw4]
              exact node_put HA3.out.2 rfl _ _
            have kA4 := (hset wr.heap.size (by omega)).trans HA3.out.1
            have hk4 : Keeps w3 w4 := by
              rw [hw4]
              exact (Keeps.set HA3.out.2 0 _).trans (Keeps.set (blk_put HA3.out.2 0 _ rfl) 1 _)
            have hbl4 : Below wr.heap.size w3 w4 := by
              rw [hw4]
              exact Below.setCell (p := ⟨wr.heap.size + 1, 1, none⟩) (Below.setCell (p := ⟨wr.heap.size + 1, 0, none⟩) (Below.refl _ _) (Nat.le_succ _) _) (Nat.le_succ _) _
            have HN4 := Aside0.mk (HS3.out.2.keeps hk4 (fun k hk => hset k (by have h := HV3.out.1; rw [← HP2.out.2] at h; rw [h] at hk; injection hk with hk; have := HV3.out.2; omega)))
            have HB4 := Aside0.mk (show Below w.heap.size w w4 from HB3.out.trans ⟨hbl4.os, hbl4.tape, hbl4.output, hbl4.size, fun k hk => hbl4.block k (by have := HBm.out.size; omega)⟩)
            have HSa4 := Aside0.mk (HSa3.out.keeps hk4)
            have HSb4 := Aside0.mk (HS3.out.1.keeps hk4)
            have HK4 := Aside0.mk (HK3.out.trans hk4)
            have HA4 := Aside0.mk (And.intro kA4 kB4)
            have hg1 : w4.cell? ⟨wr.heap.size, 1, none⟩ = some (.slice Aa p1.2.length ca) := by rw [cell_of_row w4 _ _ _ _ _ kA4]; rfl
            have hg2 : w4.cell? ⟨wr.heap.size + 1, 1, none⟩ = some (.slice Ab p2.2.length cb) := by rw [cell_of_row w4 _ _ _ _ _ kB4]; rfl
            rw [← hw4]
            clear hw4 hset hk4 hbl4 HS3 HB3 HK3 HSa3 HA3 kA4 kB4
            go_wp2_with fail
            obtain ⟨w5, hw5⟩ : ∃ w5, w5 = w4.alloc (Obj.cells #[Value.slice Aa p1.2.length ca, Value.slice Ab p2.2.length cb] 73) := ⟨_, rfl⟩
            have hb5 : Below w4.heap.size w4 w5 := by rw [hw5]; exact (Below.refl _ _).alloc (Nat.le_refl _) _
            have kC : w5.heap[w4.heap.size]? = some (.cells #[Value.slice Aa p1.2.length ca, Value.slice Ab p2.2.length cb] 73 (0, 0)) := by
              rw [hw5]; exact Array.getElem?_push_size
            have hp1 : w5.cell? ⟨w4.heap.size, 0, none⟩ = some (.slice Aa p1.2.length ca) := by rw [cell_of_row w5 _ _ _ _ _ kC]; rfl
            have hp2 : w5.cell? ⟨w4.heap.size, 1, none⟩ = some (.slice Ab p2.2.length cb) := by rw [cell_of_row w5 _ _ _ _ _ kC]; rfl
            rw [← hw5]
            have HBth := Aside0.mk (show bothOf ms = p1.2 ++ p2.2 from by unfold bothOf; rw [← HP1.out.2, ← HP2.out.1, ← HP1.out.1])
            have HMg := Aside0.mk (merge_good HGm.out h1)
            have hra := Kd.R_reads' (HSa4.out.below hb5)
            have hrb := Kd.R_reads' (HSb4.out.below hb5)
            have hln : p1.2.length + p2.2.length ≤ 300 := by
              have h := HMg.out.2.2.1
              rw [HBth.out, List.length_append] at h
              omega
            refine (concat_two w4.heap.size Aa Ab ca cb p1.2 p2.2 w5 hp1 hp2 hra.2.2 hrb.2.2 hra.2.1 hrb.2.1 (by omega)).mono ?_
            rintro e w6 ⟨v9, rfl, h9, hb9⟩
            have hb6 : Below w4.heap.size w4 w6 := below_then hb5 hb5.size hb9
            have hs4 : wr.heap.size + 1 < w4.heap.size := by
              have h := (Array.getElem?_eq_some_iff.1 HA4.out.2).1
              exact h
            have HA6 := Aside0.mk (And.intro ((hb6.block _ (by omega)).trans HA4.out.1) ((hb6.block _ hs4).trans HA4.out.2))
            have HB6 := Aside0.mk (show Below w.heap.size w w6 from below_then HB4.out HB4.out.size hb6)
            have HN6 := Aside0.mk (HN4.out.below hb6)
            have HO6 := Aside0.mk (HOm.out.1.keeps (HK4.out.trans (Keeps.below hb6)))
            have HSz := Aside0.mk (show wB.heap.size ≤ w6.heap.size from by have := HSm.out; have := hb6.size; omega)
            rw [← HBth.out] at h9
            have H9 := Aside0.mk (show SymR w6 wB.heap.size v9 (bothOf ms) from Kd.R_lower h9 (by have := HSm.out; have := hb5.size; omega))
            clear hp1 hp2 hg1 hg2 kC hw5 hra hrb h9 hb9 hb6 hs4 hb5 HA4 HB4 HN4 HSa4 HSb4 HK4
            obtain ⟨A9, c9, e9⟩ := Kd.R_slice H9.out
            subst e9
            obtain ⟨bo, hbo⟩ : ∃ b, b = bothOf ms := ⟨_, rfl⟩
            rw [← hbo] at H9 HMg
            rw [← hbo]
            have HBo := Aside0.mk hbo
            clear hbo
            obtain ⟨LB, hLB⟩ : ∃ n, n = bo.length := ⟨_, rfl⟩
            rw [← hLB]
            have HLB := Aside0.mk hLB
            have hLB3 : LB ≤ 300 := by have := HMg.out.2.2.1; omega
            clear hLB
            go_wp2_with fail
            obtain ⟨wr0, ewr0⟩ : ∃ x, x = wr := ⟨_, rfl⟩
            subst ewr0
            obtain ⟨gk0, egk0⟩ : ∃ x, x = gk := ⟨_, rfl⟩
            subst egk0
            go_loopg [64] LB (fun kq v64 w' => ∃ j : Nat, j ≤ LB ∧ v64 = .int .i64 j ∧ Aside0 (kq + j = LB) ∧ Aside0 (SymR w' w.heap.size v1 (bump out (bo.take j))) ∧ Aside0 (NodesS w' w.heap.size wB.heap.size (.slice Aw m2.length cw) m2) ∧ Aside0 (SymR w' wB.heap.size (.slice A9 LB c9) bo) ∧ Aside0 (w'.heap[wr0.heap.size]? = some (.cells #[.int .i64 p1.1, .slice Aa p1.2.length ca] 126 (0, 0)) ∧ w'.heap[wr0.heap.size + 1]? = some (.cells #[.int .i64 p2.1, .slice Ab p2.2.length cb] 126 (0, 0))) ∧ Aside0 (Below w.heap.size w w') ∧ Aside0 (wB.heap.size ≤ w'.heap.size))
            case atStart => exact ⟨0, by omega, rfl, ⟨by omega⟩, HO6, HN6, ⟨HLB.out ▸ H9.out⟩, HA6, HB6, HSz⟩
            case round =>
              clear HO6 HN6 HA6 HB6 HSz H9
              obtain ⟨j, hj, rfl, HKj, HO7, HN7, H97, HA7, HB7, HS7⟩ := hrel
              by_cases hjl : j < LB
              · obtain ⟨ad9, e9, hcell⟩ := Kd.at_int (Kd.R_reads' H97.out).2.2 (j : Int) (by omega) (by rw [← HLB.out]; omega)
                subst e9
                rw [Int.toNat_natCast] at hcell
                have HBt := Aside0.mk (bump_take out bo j (by rw [← HLB.out]; exact hjl))
                have hsv := HMg.out.2.2.2 (rd bo (j : Int)) (by unfold rd; rw [Int.toNat_natCast, List.getD_eq_getElem?_getD, List.getElem?_eq_getElem (by rw [← HLB.out]; exact hjl)]; exact List.getElem_mem _)
                generalize rd bo (j : Int) = sv at hcell HBt hsv
                obtain ⟨hs0, hsi⟩ := hsv
                have hol : (bump out (bo.take j)).length = i := by rw [bump_length]; exact HOm.out.2
                obtain ⟨o7, ho7⟩ : ∃ o, o = bump out (bo.take j) := ⟨_, rfl⟩
                rw [← ho7] at HO7 hol HBt
                clear ho7
                obtain ⟨go, co, ev1, hgo1, hgo2, ocs, hocs⟩ := Kd.R_form HO7.out (by rw [hol]; omega)
                rw [hol] at ev1
                have hgB := HGo.out go (by rw [ev1]; simp [Value.ownBlock])
                have HO8 := HO7.out
                rw [ev1] at HO8
                obtain ⟨hoc, hof⟩ := Kd.R_celln (0 : Int) HO8 sv hs0 hsi
                have hrd : rdOf (0 : Int) o7 sv = rd o7 sv := rfl
                rw [hrd] at hoc
                clear hrd
                have HV1' := Aside0.mk ev1
                generalize hov : rd o7 sv = ov at hoc HBt
                clear hov
                rw [ev1]
                clear ev1
                go_wp2_with fail
                rw [← HV1'.out]
                have HO9 := Aside0.mk (show SymR (wr.setCell ⟨go, sv.toNat, none⟩ (.int .i64 (wrap64 (ov + 1)))) w.heap.size v1 (bump out (bo.take (j + 1))) from by
                  rw [HBt.out, HV1'.out]
                  exact Kd.R_putn HO8 sv (wrap64 (ov + 1)))
                have HN9 := Aside0.mk (HN7.out.far hocs hgB sv.toNat (.int .i64 (wrap64 (ov + 1))))
                have H99 := Aside0.mk (H97.out.keep (w1 := wr.setCell ⟨go, sv.toNat, none⟩ (.int .i64 (wrap64 (ov + 1)))) (fun k _ hk _ _ => Below.heap_setCell wr ⟨go, sv.toNat, none⟩ _ k (by show k ≠ go; omega)))
                have HA9 := Aside0.mk (And.intro ((Below.heap_setCell wr ⟨go, sv.toNat, none⟩ (.int .i64 (wrap64 (ov + 1))) wr0.heap.size (Ne.symm (not_both hocs HA7.out.1))).trans HA7.out.1) ((Below.heap_setCell wr ⟨go, sv.toNat, none⟩ (.int .i64 (wrap64 (ov + 1))) (wr0.heap.size + 1) (Ne.symm (not_both hocs HA7.out.2))).trans HA7.out.2))
                have HB9 := Aside0.mk (HB7.out.setCell (p := ⟨go, sv.toNat, none⟩) hgo1 (.int .i64 (wrap64 (ov + 1))))
                go_roundg (gk - 1)
                case measure => have := HKj.out; omega
                case rel => exact ⟨j + 1, by omega, by go_num, ⟨by have := HKj.out; omega⟩, HO9, HN9, H99, HA9, HB9, ⟨by have := HS7.out; simp [World.setCell]; omega⟩⟩
              · have hjL : j = LB := by omega
                subst hjL
                rw [List.take_of_length_le (by rw [← HLB.out]; exact Nat.le_refl _)] at HO7
                have ha1 : wr.cell? ⟨wr0.heap.size, 0, none⟩ = some (.int .i64 p1.1) := by rw [cell_of_row wr _ _ _ _ _ HA7.out.1]; rfl
                have hb1 : wr.cell? ⟨wr0.heap.size + 1, 0, none⟩ = some (.int .i64 p2.1) := by rw [cell_of_row wr _ _ _ _ _ HA7.out.2]; rfl
                obtain ⟨l, hNl, hSl⟩ := HN7.out
                have HNl := Aside0.mk hNl
                have HSl := Aside0.mk hSl
                have HLL := Aside0.mk (show l.length ≤ 300 from by
                  have h := rest_good (rest_good HGm.out (by omega)).1 (by have := (rest_good HGm.out (by omega)).2.1; omega)
                  rw [← HP1.out.2, ← HP2.out.2] at h
                  have h2 := h.1.1
                  have h3 := hSl.1
                  omega)
                clear hNl hSl
                go_wp2_with ((with_reducible refine gate_builtin (b := .append) (xs := #[.tmp 75, .tmp 83]) rfl ?_); at_builtin; refine Kd.R_append (Kd.raw 2) (w0 := w) w.heap.size rfl (.tmp 75) (.tmp 83) 124 126 (.agg #[.int .i64 0, .slice none 0 0]) 32 rfl Try.underlying124 node_info rfl (by decide) (by decide) (.slice Aw m2.length cw) (nodeRows l) (nodeCells (wrap64 (p1.1 + p2.1), .slice A9 j c9)) (nodeCells (wrap64 (p1.1 + p2.1), .slice A9 j c9)) (fun _ => True) (fun _ => False) rfl rfl ⟨rfl, rfl, by intro u hu; simp [nodeCells] at hu; rcases hu with rfl | rfl <;> rfl⟩ (fun _ hk => hk.elim) (fun _ _ => trivial) HNl.out HB7.out HB7.out.size (by rw [nodeRows_length]; have := HLL.out; omega) ?_; intro v5 w7 ho hb hg hat; (have HNw := Aside0.mk (And.intro ho (And.intro hb hg))); clear ho hb hg hat)
                obtain ⟨ho, hb, hg⟩ := HNw.out
                have HN8 := Aside0.mk (NodesS.snoc (y := (wrap64 (p1.1 + p2.1), bo)) HNl.out HSl.out ho hg ⟨rfl, H97.out⟩)
                have hk8 : Keeps wr w7 := by
                  refine ⟨hg.size, fun k cells hk hc => hg.block k hk (fun e => ?_)⟩
                  obtain ⟨cs, h5⟩ := nodes_type HNl.out k e.symm
                  exact not_both hc h5 rfl
                have HO8 := Aside0.mk (HO7.out.keeps hk8)
                have hmg : mergeOf ms = m2 ++ [(wrap64 (p1.1 + p2.1), bo)] := by
                  unfold mergeOf
                  rw [← HBo.out, ← HP1.out.2, ← HP2.out.2, ← HP2.out.1, ← HP1.out.1]
                obtain ⟨k', hk'⟩ : ∃ k', k = k' + 1 := ⟨k - 1, by have := HF.out.2; omega⟩
                have hF2 : onceFrom k' (mergeOf ms) (bump out bo) = onceOf l0 := by
                  have h := HF.out.1
                  rw [hk'] at h
                  unfold onceFrom at h
                  rw [if_pos h1, ← HBo.out] at h
                  exact h
                go_roundg (gk0 - 1)
                case measure => have := HK.out; omega
                case rel => exact ⟨k', mergeOf ms, bump out bo, ⟨hF2, by have h := HMg.out.2.1; have := HF.out.2; omega⟩, ⟨by have h := HMg.out.2.1; have := HK.out; omega⟩, ⟨HMg.out.1⟩, ⟨HO8.out, by rw [bump_length]; exact HOm.out.2⟩, ⟨by rw [hmg]; exact HN8.out⟩, ⟨hb⟩, ⟨by have := HS7.out; have := hg.size; omega⟩⟩
          · have hd : decide ((1 : Int) < (ms.length : Int)) = false := decide_eq_false (by omega)
            have hd2 : decide (1 < ms.length) = false := decide_eq_false h1
            go_wp2_with fail
            go_ret
            exact ⟨v1, rfl, by rw [← HF.out.1, onceFrom_end k ms out h1]; exact HOm.out.1, HBm.out⟩
def tree_once.f (l0 : List Int) : Option (List Int) := if l0.length ≤ 300 then some (onceOf l0) else none
set_option maxHeartbeats 8000000 in
set_option maxRecDepth 100000 in
theorem tree_once.calls (A0 : Option Addr) (c0 : Nat) (l0 : List Int) (r : List Int) (w : World) (hr0 : Kd.C (Kd.int .i64) w A0 l0.length l0) (hc0 : l0.length ≤ c0) (h : tree_once.f l0 = some r) :
    Calls Try.prog 56 #[.slice A0 l0.length c0] w fun e w' => ∃ v0_ : Value, e = .returned (v0_) ∧ Kd.R (Kd.int .i64) 3 w' w.heap.size (fun _ => True) v0_ r ∧ Below w.heap.size w w' := by
  unfold tree_once.f at h
  by_cases hl : l0.length ≤ 300
  · rw [if_pos hl] at h
    injection h with h
    subst h
    exact once_calls A0 c0 l0 w hr0 hc0 hl
  · rw [if_neg hl] at h
    cases h

-- PART
end Go.Proofs.Ytcjijhjdkgjgeaa.P
namespace Go.Proofs.Ytcjijhjdkgjgeaa.P
open Go.RowKit Go.Proofs.YtcjijhjdkgjgeaaW.PrintWords Go.Proofs.YtcjijhjdkgjgeaaW.PrintLast Go.Proofs.YtcjijhjdkgjgeaaW.PrintMore
attribute [local go_sem] max2_int min2_int max_two min_two max_three min_three max_four min_four   -- for this text's walks alone
set_option linter.unusedVariables false
set_option linter.unusedSimpArgs false

-- PART
/-! ### slices_Max_int_int: function 57 (by hand) -/
/-- The greatest one of a row that is not empty. -/
def maxOf (m : Int) : List Int → Int
  | [] => m
  | x :: xs => maxOf (if m < x then x else m) xs
theorem maxOf_snoc (x : Int) : ∀ (m : Int) (xs : List Int), maxOf m (xs ++ [x]) = if maxOf m xs < x then x else maxOf m xs
  | m, [] => rfl
  | m, y :: ys => maxOf_snoc x _ ys
theorem maxOf_step (x0 : Int) (xs : List Int) (i : Nat) (h1 : 1 ≤ i) (h : i < (x0 :: xs).length) : (if maxOf x0 (xs.take (i - 1)) < rd (x0 :: xs) (i : Int) then rd (x0 :: xs) (i : Int) else maxOf x0 (xs.take (i - 1))) = maxOf x0 (xs.take (i + 1 - 1)) := by
  obtain ⟨j, rfl⟩ : ∃ j, i = j + 1 := ⟨i - 1, by omega⟩
  have hlen : j < xs.length := by simp at h; exact h
  have e : rd (x0 :: xs) ((j + 1 : Nat) : Int) = xs[j] := by
    unfold rd
    rw [Int.toNat_natCast, List.getD_eq_getElem?_getD, List.getElem?_cons_succ, List.getElem?_eq_getElem hlen]; rfl
  rw [e, Nat.add_sub_cancel, Nat.add_sub_cancel, List.take_succ_eq_append_getElem hlen, maxOf_snoc]
def slices_Max_int_int.f (l0 : List Int) : Option (Int) := match l0 with
  | [] => none
  | x :: xs => some (maxOf x xs)
set_option maxHeartbeats 8000000 in
set_option maxRecDepth 100000 in
theorem slices_Max_int_int.calls (A0 : Option Addr) (c0 : Nat) (l0 : List Int) (r : Int) (w : World) (hr0 : Kd.C (Kd.int .i64) w A0 l0.length l0) (hc0 : l0.length ≤ c0) (h : slices_Max_int_int.f l0 = some r) :
    Calls Try.prog 57 #[.slice A0 l0.length c0] w fun e w' => e = .returned (.int .i64 r) ∧ Below w.heap.size w w' := by
  cases l0 with
  | nil => simp [slices_Max_int_int.f] at h
  | cons x0 xs =>
    unfold slices_Max_int_int.f at h
    injection h with h
    have HR := Aside0.mk hr0
    have HC := Aside0.mk hc0
    obtain ⟨L, hL⟩ : ∃ L, L = (x0 :: xs).length := ⟨_, rfl⟩
    have hL1 : 1 ≤ L := by rw [hL]; simp
    have hLm : L ≤ 9223372036854775807 := by rw [hL]; exact hr0.2.1
    have HL := Aside0.mk hL
    have H := Aside0.mk h
    rw [← hL]
    clear hr0 hc0 h hL
    have hlt1 : decide ((L : Int) < 1) = false := decide_eq_false (by omega)
    have hlt2 : decide (L < 1) = false := decide_eq_false (by omega)
    obtain ⟨ad, rfl, hcell0⟩ := Kd.at_int HR.out 0 (by omega) (by rw [← HL.out]; omega)
    rw [show rd (x0 :: xs) 0 = x0 from rfl, show ((0 : Int)).toNat = 0 from rfl, show ad.add 0 = ad from by unfold Addr.add; simp] at hcell0
    have hpos : (0 : Int) < (L : Int) := by omega
    go_enter Try.func57, Try.ntmps57
    go_wp2_with fail
    clear hcell0
    go_loop [3, 4] (fun v3 v4 => ∃ i : Nat, 1 ≤ i ∧ i ≤ L ∧ v3 = .int .i64 (maxOf x0 (xs.take (i - 1))) ∧ v4 = .int .i64 i) (fun _ v4 => L - (intOf v4).toNat)
    case atStart => exact ⟨1, by omega, by omega, rfl, rfl⟩
    case round =>
      obtain ⟨i, hi1, hi2, rfl, rfl⟩ := hrel
      by_cases hlt : i < L
      · obtain ⟨ad2, e2, hcell⟩ := Kd.at_int HR.out (i : Int) (by omega) (by rw [← HL.out]; omega)
        injection e2 with e2
        subst e2
        obtain ⟨y, hy⟩ : ∃ y, y = rd (x0 :: xs) (i : Int) := ⟨_, rfl⟩
        rw [← hy, Int.toNat_natCast] at hcell
        obtain ⟨m, hm⟩ : ∃ m, m = maxOf x0 (xs.take (i - 1)) := ⟨_, rfl⟩
        rw [← hm]
        have HM := Aside0.mk (maxOf_step x0 xs i hi1 (by rw [← HL.out]; exact hlt))
        rw [← hm, ← hy] at HM
        clear hm hy
        have hmx := max2_int .i64 .i64 m y
        go_wp2_with fail
        exact ⟨⟨i + 1, by omega, by omega, by rw [HM.out], by go_num⟩, by simp [intOf]; omega⟩
      · have hi3 : i = L := by omega
        subst hi3
        go_wp2_with fail
        go_ret
        refine ⟨?_, Below.refl _ _⟩
        rw [← H.out, List.take_of_length_le (by have := HL.out; simp at this; omega)]
        rfl

-- PART
end Go.Proofs.Ytcjijhjdkgjgeaa.P
namespace Go.Proofs.Ytcjijhjdkgjgeaa.P
open Go.RowKit Go.Proofs.YtcjijhjdkgjgeaaW.PrintWords Go.Proofs.YtcjijhjdkgjgeaaW.PrintLast Go.Proofs.YtcjijhjdkgjgeaaW.PrintMore
attribute [local go_sem] max2_int min2_int max_two min_two max_three min_three max_four min_four   -- for this text's walks alone
set_option linter.unusedVariables false
set_option linter.unusedSimpArgs false

-- PART
/-! ### tree_Lengths: function 36 (by hand) -/
-- UNLESS wherry/tree.Cost
/-- May weights be such? How many are above 0? -/
def weighs (w : List Int) : Bool := decide (w.length ≤ 300) && w.all (fun x => decide (0 ≤ x) && decide (x ≤ 1048576))
def pos (w : List Int) : Nat := (w.filter (fun x => decide (0 < x))).length
theorem weighs_iff (w : List Int) : weighs w = true ↔ w.length ≤ 300 ∧ ∀ x ∈ w, 0 ≤ x ∧ x ≤ 1048576 := by
  unfold weighs
  simp [List.all_eq_true]
theorem pos_le (w : List Int) : pos w ≤ w.length := List.length_filter_le _ _
theorem above_loop (l : List Int) (hl : l.length ≤ 300) : ∀ (d i k : Nat), i + d = l.length → 2 * d < k → tree_above.l0 k (pos (l.take i) : Int) l (l.length : Int) (i : Int) = some (if (l.drop i).all (fun x => decide (0 ≤ x) && decide (x ≤ 1048576)) then ((pos l : Int), true) else (0, false)) := by
  intro d
  induction d with
  | zero =>
    intro i k hi hk
    obtain ⟨k, rfl⟩ : ∃ m, k = m + 1 := ⟨k - 1, by omega⟩
    simp only [tree_above.l0]
    rw [if_neg (by omega), List.drop_of_length_le (by omega), List.take_of_length_le (by omega)]
    rfl
  | succ d ih =>
    intro i k hi hk
    obtain ⟨k, rfl⟩ : ∃ m, k = m + 2 := ⟨k - 2, by omega⟩
    have hlt : i < l.length := by omega
    have hp : pos (l.take i) ≤ 300 := Nat.le_trans (pos_le _) (by rw [List.length_take]; omega)
    have hstep : pos (l.take (i + 1)) = pos (l.take i) + if 0 < l[i] then 1 else 0 := by
      unfold pos
      rw [List.take_succ_eq_append_getElem hlt, List.filter_append, List.length_append]
      by_cases h : 0 < l[i] <;> simp [List.filter_cons, h]
    have e : rd l (i : Int) = l[i] := by unfold rd; rw [Int.toNat_natCast, List.getD_eq_getElem?_getD, List.getElem?_eq_getElem hlt]; rfl
    simp only [tree_above.l0]
    rw [if_pos (by omega), if_pos (by omega), if_pos (by omega), e, List.drop_eq_getElem_cons hlt, List.all_cons]
    by_cases h0 : l[i] < 0
    · rw [if_pos h0, decide_eq_false (by omega)]
      simp only [tree_above.j1]
      rw [if_pos trivial]
      rfl
    · rw [if_neg h0]
      by_cases h1 : l[i] > 1048576
      · rw [decide_eq_true h1, decide_eq_true (by omega), decide_eq_false (by omega)]
        simp only [tree_above.j1]
        rw [if_pos trivial]
        rfl
      · rw [decide_eq_false h1, decide_eq_true (by omega), decide_eq_true (by omega), Bool.and_true, Bool.true_and]
        simp only [tree_above.j1]
        rw [if_neg (by decide), show wrap64 ((i : Int) + 1) = ((i + 1 : Nat) : Int) from by unfold wrap64; omega, show wrap64 ((pos (l.take i) : Int) + 1) = ((pos (l.take i) + 1 : Nat) : Int) from by unfold wrap64; omega]
        have := ih (i + 1) k (by omega) (by omega)
        rw [hstep] at this
        by_cases h2 : l[i] > 0
        · rw [if_pos h2]
          rw [if_pos (by omega)] at this
          exact this
        · rw [if_neg h2]
          rw [if_neg (by omega)] at this
          exact this
theorem above_is (l : List Int) : tree_above.f 700 l = some (if weighs l then ((pos l : Int), true) else (0, false)) := by
  unfold tree_above.f weighs
  by_cases h : l.length ≤ 300
  · rw [if_neg (by omega), decide_eq_true h]
    have := above_loop l h l.length 0 700 (by omega) (by omega)
    rw [show ((pos (l.take 0) : Nat) : Int) = 0 from rfl, List.drop_zero] at this
    exact this
  · rw [if_pos (by omega), decide_eq_false h]; rfl
theorem clone_calls (A0 : Option Addr) (c0 : Nat) (l0 : List Int) (w : World) (hr0 : Kd.C (Kd.int .i64) w A0 l0.length l0) (hc0 : l0.length ≤ c0) (h : l0.length < 17592186044416) :
    Calls Try.prog 55 #[.slice A0 l0.length c0] w fun e w' => ∃ v0_ : Value, e = .returned (v0_) ∧ Kd.R (Kd.int .i64) 3 w' w.heap.size (fun _ => True) v0_ l0 ∧ Below w.heap.size w w' :=
  slices_Clone_int_int.calls A0 c0 l0 l0 w hr0 hc0 (by unfold slices_Clone_int_int.f; rw [if_pos h])
theorem max_calls (A0 : Option Addr) (c0 : Nat) (x : Int) (xs : List Int) (w : World) (hr0 : Kd.C (Kd.int .i64) w A0 (x :: xs).length (x :: xs)) (hc0 : (x :: xs).length ≤ c0) :
    Calls Try.prog 57 #[.slice A0 (x :: xs).length c0] w fun e w' => e = .returned (.int .i64 (maxOf x xs)) ∧ Below w.heap.size w w' :=
  slices_Max_int_int.calls A0 c0 (x :: xs) (maxOf x xs) w hr0 hc0 rfl
/-- Each weight above 0 halved, rounded up. -/
def halved (ws : List Int) : List Int := ws.map (fun w => if 0 < w then wrap64 ((wrap64 (w + 1)).tdiv 2) else w)
def topOf : List Int → Int
  | [] => 0
  | x :: xs => maxOf x xs
def lensFrom : Nat → List Int → Int → Option (List Int)
  | 0, _, _ => none
  | k + 1, ws, lim => if (onceOf ws).length = 0 ∨ topOf (onceOf ws) ≤ lim then some (onceOf ws) else lensFrom k (halved ws) lim
def lensOf (l0 : List Int) (a1 : Int) : Option (List Int × Int) :=
  if weighs l0 = false ∨ a1 > 15 ∨ a1 < 5 ∨ (a1 < 9 ∧ pos l0 > 19) then some ([], 1) else (lensFrom 32 l0 a1).map (fun r => (r, 0))
theorem bad_iff (l0 : List Int) (a1 n : Int) (q : Bool) (hn : n = if weighs l0 then ((pos l0 : Nat) : Int) else 0) (hq : q = weighs l0) : (!q || decide (15 < a1) || decide (a1 < 5) || (decide (a1 < 9) && decide (19 < n))) = true ↔ (weighs l0 = false ∨ a1 > 15 ∨ a1 < 5 ∨ (a1 < 9 ∧ pos l0 > 19)) := by
  subst hq
  cases hw : weighs l0 with
  | false => simp
  | true =>
    rw [hw] at hn
    simp only [if_true] at hn
    subst hn
    simp only [Bool.not_true, Bool.false_or, Bool.or_eq_true, Bool.and_eq_true, decide_eq_true_eq, Bool.true_eq_false, false_or]
    omega
/-- The first j are halved. -/
def halfTo (ws : List Int) (j : Nat) : List Int := halved (ws.take j) ++ ws.drop j
theorem halfTo_length (ws : List Int) (j : Nat) : (halfTo ws j).length = ws.length := by
  unfold halfTo halved
  rw [List.length_append, List.length_map, List.length_take, List.length_drop]
  omega
theorem halfTo_at (ws : List Int) (j : Nat) (h : j < ws.length) : rd (halfTo ws j) (j : Int) = ws[j] := by
  unfold rd halfTo halved
  rw [Int.toNat_natCast, List.getD_eq_getElem?_getD, List.getElem?_append_right (by simp; omega), List.length_map, List.length_take, Nat.min_eq_left (by omega), Nat.sub_self, List.getElem?_drop, Nat.add_zero, List.getElem?_eq_getElem h]
  rfl
theorem halfTo_succ (ws : List Int) (j : Nat) (h : j < ws.length) : halfTo ws (j + 1) = (halfTo ws j).set j (if 0 < ws[j] then wrap64 ((wrap64 (ws[j] + 1)).tdiv 2) else ws[j]) := by
  unfold halfTo halved
  rw [List.take_succ_eq_append_getElem h, List.drop_eq_getElem_cons h, List.map_append, List.set_append_right _ _ (by simp; omega), List.length_map, List.length_take, Nat.min_eq_left (by omega), Nat.sub_self, List.set_cons_zero, List.append_assoc]
  rfl
theorem halfTo_all (ws : List Int) : halfTo ws ws.length = halved ws := by
  unfold halfTo
  rw [List.take_length, List.drop_length, List.append_nil]
set_option maxHeartbeats 8000000 in
set_option maxRecDepth 100000 in
theorem lengths_calls (A0 : Option Addr) (c0 : Nat) (l0 : List Int) (a1 : Int) (r1 : List Int) (r2 : Int) (w : World) (hr0 : Kd.C (Kd.int .i64) w A0 l0.length l0) (hc0 : l0.length ≤ c0) (h : lensOf l0 a1 = some (r1, r2)) :
    Calls Try.prog 36 #[.slice A0 l0.length c0, .int .i64 a1] w fun e w' => ∃ v0_ : Value, e = .returned (.tuple #[v0_, .int .i64 r2]) ∧ Kd.R (Kd.int .i64) 3 w' w.heap.size (fun _ => True) v0_ r1 ∧ Below w.heap.size w w' := by
  have HR := Aside0.mk hr0
  have HC := Aside0.mk hc0
  have H := Aside0.mk h
  obtain ⟨n, hn⟩ : ∃ n : Int, n = if weighs l0 then ((pos l0 : Nat) : Int) else 0 := ⟨_, rfl⟩
  obtain ⟨q, hq⟩ : ∃ q, q = weighs l0 := ⟨_, rfl⟩
  have HA := Aside0.mk (show tree_above.f 700 l0 = some (n, q) from by rw [above_is, hn, hq]; cases weighs l0 <;> rfl)
  have HN := Aside0.mk (And.intro hn hq)
  clear hr0 hc0 h hn hq
  go_enter Try.func36, Try.ntmps36
  go_wp2_with fail
  refine (tree_above.calls 700 _ _ l0 n q w HR.out HC.out HA.out).mono ?_
  rintro e w1 ⟨rfl, hd⟩
  have HD := Aside0.mk hd.below
  clear hd
  go_upto_region 2 with fail
  go_cut [7, 33] (fun v7 v33 wc => v7 = .bool q ∧ v33 = .bool (!q || decide (15 < a1) || decide (a1 < 5) || (decide (a1 < 9) && decide (19 < n))) ∧ wc = w1)
  case first =>
    go_wp2_with fail
    all_goals (go_meet; case rel => exact ⟨by first | rfl | simp [*], by first | (simp [*]; done) | (simp [*]; omega), rfl⟩)
  case rest =>
    obtain ⟨rfl, rfl, rfl⟩ := hcut
    by_cases hbad : (!q || decide (15 < a1) || decide (a1 < 5) || (decide (a1 < 9) && decide (19 < n))) = true
    · rw [hbad]
      go_wp2_with fail
      go_ret2
      have h := H.out
      unfold lensOf at h
      rw [if_pos ((bad_iff l0 a1 n q HN.out.1 HN.out.2).1 hbad)] at h
      injection h with h
      injection h with h1 h2
      subst h1; subst h2
      exact ⟨_, rfl, Kd.R_nil _ _ _ _ _, HD.out⟩
    · rw [Bool.not_eq_true] at hbad
      rw [hbad]
      have HF := Aside0.mk (show ∃ r, lensFrom 32 l0 a1 = some r ∧ r1 = r ∧ r2 = 0 ∧ weighs l0 = true from by
        have hc : ¬ (weighs l0 = false ∨ a1 > 15 ∨ a1 < 5 ∨ (a1 < 9 ∧ pos l0 > 19)) := fun hc => by
          rw [(bad_iff l0 a1 n q HN.out.1 HN.out.2).2 hc] at hbad
          cases hbad
        have h := H.out
        unfold lensOf at h
        rw [if_neg hc] at h
        obtain ⟨r, hr, he⟩ := Option.map_eq_some_iff.1 h
        injection he with h1 h2
        refine ⟨r, hr, h1.symm, h2.symm, ?_⟩
        cases hw : weighs l0 with
        | false => exact absurd (.inl hw) hc
        | true => rfl)
      clear hbad
      go_wp2_with fail
      refine (clone_calls A0 c0 l0 _ (Kd.C_below HR.out HD.out) HC.out (by obtain ⟨_, _, _, _, hw⟩ := HF.out; have := ((weighs_iff l0).1 hw).1; omega)).mono ?_
      rintro e w2 ⟨v0, rfl, ho, hb⟩
      have HO := Aside0.mk ho
      have HB := Aside0.mk (show Below w.heap.size w w2 from below_then HD.out HD.out.size hb)
      have HS := Aside0.mk (show w.heap.size ≤ wc.heap.size from HD.out.size)
      clear ho hb
      go_wp2_with fail
      obtain ⟨r, hr, rfl, rfl, hw⟩ := HF.out
      have HW := Aside0.mk ((weighs_iff l0).1 hw).1
      have HO2 := Aside0.mk (Kd.R_lower HO.out HS.out)
      have HR0 := Aside0.mk hr
      clear hr hw HF HO
      go_loopg [] 32 (fun kq w' => ∃ ws, Aside0 (lensFrom kq ws a1 = some r1) ∧ Aside0 (ws.length ≤ 300) ∧ Aside0 (Kd.R (Kd.int .i64) 3 w' w.heap.size (fun _ => True) v0 ws) ∧ Aside0 (Below w.heap.size w w'))
      case atStart => exact ⟨l0, HR0, HW, HO2, HB⟩
      case round =>
        clear HR0 HW HO2 HB
        obtain ⟨ws, HF, HL, HO, HB⟩ := hrel
        obtain ⟨k', hk'⟩ : ∃ k', gk = k' + 1 := by
          have h := HF.out
          cases gk with
          | zero => simp [lensFrom] at h
          | succ k' => exact ⟨k', rfl⟩
        have HGK := Aside0.mk hk'
        have hF := HF.out
        rw [hk'] at hF
        unfold lensFrom at hF
        have HF2 := Aside0.mk hF
        clear hk' hF HF
        obtain ⟨A, c, e⟩ := Kd.R_slice HO.out
        subst e
        go_wp2_with fail
        refine (once_calls A c ws wr (Kd.R_reads' HO.out).2.2 (Kd.R_reads' HO.out).2.1 HL.out).mono ?_
        rintro e w3 ⟨v8, rfl, h8, hb8⟩
        have H8 := Aside0.mk h8
        have HB8 := Aside0.mk hb8
        have HO3 := Aside0.mk (Kd.R_below HO.out hb8)
        have HBw3 := Aside0.mk (show Below w.heap.size w w3 from below_then HB.out HB.out.size hb8)
        obtain ⟨A8, c8, e8⟩ := Kd.R_slice h8
        subst e8
        clear h8 hb8
        obtain ⟨out, hout⟩ : ∃ o, o = onceOf ws := ⟨_, rfl⟩
        rw [← hout] at H8 HF2 ⊢
        have HOut := Aside0.mk hout
        clear hout
        cases out with
        | nil =>
          go_wp2_with fail
          go_ret2
          have h := HF2.out
          rw [if_pos (show ([] : List Int).length = 0 ∨ topOf [] ≤ a1 from Or.inl rfl)] at h
          injection h with h
          subst h
          exact ⟨_, rfl, Kd.R_lower H8.out HB.out.size, HBw3.out⟩
        | cons x xs =>
          have hne : (((x :: xs).length : Int) == 0) = false := by rw [beq_eq_false_iff_ne]; simp; omega
          have hne2 : (((xs.length : Int) + 1) == 0) = false := by rw [beq_eq_false_iff_ne]; omega
          go_wp2_with fail
          refine (max_calls A8 c8 x xs w3 (Kd.R_reads' H8.out).2.2 (Kd.R_reads' H8.out).2.1).mono ?_
          rintro e w4 ⟨rfl, hb4⟩
          have HB4 := Aside0.mk (show Below w.heap.size w w4 from below_then HBw3.out HBw3.out.size hb4)
          have HO4 := Aside0.mk (Kd.R_below HO3.out hb4)
          have H84 := Aside0.mk (Kd.R_below H8.out hb4)
          clear hb4
          obtain ⟨m, hm⟩ : ∃ m, m = maxOf x xs := ⟨_, rfl⟩
          rw [show topOf (x :: xs) = maxOf x xs from rfl, ← hm] at HF2
          rw [← hm]
          clear hm
          by_cases hle : m ≤ a1
          · have hd : decide (m ≤ a1) = true := decide_eq_true hle
            go_wp2_with fail
            go_ret2
            have h := HF2.out
            rw [if_pos (show (x :: xs).length = 0 ∨ m ≤ a1 from Or.inr hle)] at h
            injection h with h
            subst h
            exact ⟨_, rfl, Kd.R_lower H84.out HB.out.size, HB4.out⟩
          · have hd : decide (m ≤ a1) = false := decide_eq_false hle
            have HF3 := Aside0.mk (show lensFrom k' (halved ws) a1 = some r1 from by
              have h := HF2.out
              rw [if_neg (show ¬ ((x :: xs).length = 0 ∨ m ≤ a1) from by simp; omega)] at h
              exact h)
            clear HF2 H84 H8 HO3 HBw3
            obtain ⟨wr0, ewr0⟩ : ∃ y, y = wr := ⟨_, rfl⟩
            subst ewr0
            obtain ⟨gk0, egk0⟩ : ∃ y, y = gk := ⟨_, rfl⟩
            subst egk0
            go_wp2_with fail
            obtain ⟨L, hL⟩ : ∃ L, L = ws.length := ⟨_, rfl⟩
            rw [← hL] at HO4 HL ⊢
            have HLL := Aside0.mk hL
            clear hL
            go_loopg [50] L (fun kq v50 w' => ∃ j : Nat, j ≤ L ∧ v50 = .int .i64 j ∧ Aside0 (kq + j = L) ∧ Aside0 (Kd.R (Kd.int .i64) 3 w' w.heap.size (fun _ => True) (.slice A L c) (halfTo ws j)) ∧ Aside0 (Below w.heap.size w w'))
            case atStart => exact ⟨0, by omega, rfl, ⟨by omega⟩, HO4, HB4⟩
            case round =>
              obtain ⟨j, hj, rfl, HKj, HOj, HBj⟩ := hrel
              have hL3 : L ≤ 300 := HL.out
              by_cases hlt : j < L
              · obtain ⟨g, cap, e, hg1, _, cells, hcs⟩ := Kd.R_form HOj.out (by rw [halfTo_length, ← HLL.out]; omega)
                injection e with e1 e2 e3
                subst e1
                have hjw : j < ws.length := by rw [← HLL.out]; exact hlt
                obtain ⟨hc1, hc2⟩ := Kd.R_celln (0 : Int) HOj.out (j : Int) (by omega) (by omega)
                have hrd : rdOf (0 : Int) (halfTo ws j) (j : Int) = rd (halfTo ws j) (j : Int) := rfl
                rw [hrd, halfTo_at ws j hjw, Int.toNat_natCast] at hc1
                rw [Int.toNat_natCast] at hc2
                have HST := Aside0.mk (halfTo_succ ws j hjw)
                have HXX := Aside0.mk (show (halfTo ws j)[j]? = some ws[j] from by
                  have h := halfTo_at ws j hjw
                  unfold rd at h
                  rw [Int.toNat_natCast, List.getD_eq_getElem?_getD, List.getElem?_eq_getElem (by rw [halfTo_length]; exact hjw)] at h
                  rw [List.getElem?_eq_getElem (by rw [halfTo_length]; exact hjw)]
                  exact congrArg some h)
                generalize ws[j] = x at hc1 HST HXX
                clear hrd e2 e3 hcs
                by_cases hx : 0 < x
                · have hd2 : decide (0 < x) = true := decide_eq_true hx
                  go_wp2_with fail
                  have HO5 := Aside0.mk (Kd.R_putn HOj.out (j : Int) (wrap64 ((wrap64 (x + 1)).tdiv 2)))
                  rw [Int.toNat_natCast] at HO5
                  go_roundg (gk - 1)
                  case measure => have := HKj.out; omega
                  case rel => exact ⟨j + 1, by omega, by go_num, ⟨by have := HKj.out; omega⟩, ⟨by rw [HST.out, if_pos hx]; exact HO5.out⟩, ⟨HBj.out.setCell (p := ⟨g, j, none⟩) hg1 _⟩⟩
                · have hd2 : decide (0 < x) = false := decide_eq_false hx
                  have hse : (halfTo ws j).set j x = halfTo ws j := by
                    apply List.ext_getElem?
                    intro k
                    rw [List.getElem?_set]
                    split
                    · rename_i hk
                      subst hk
                      rw [if_pos (by rw [halfTo_length]; exact hjw)]
                      exact HXX.out.symm
                    · rfl
                  go_wp2_with fail
                  go_roundg (gk - 1)
                  case measure => have := HKj.out; omega
                  case rel => exact ⟨j + 1, by omega, by go_num, ⟨by have := HKj.out; omega⟩, ⟨by rw [HST.out, if_neg (by omega), hse]; exact HOj.out⟩, HBj⟩
              · have hjL : j = L := by omega
                have hh : halfTo ws j = halved ws := by rw [hjL, HLL.out, halfTo_all]
                rw [hh] at HOj
                go_wp2_with fail
                have eL := HLL.out
                subst eL
                go_roundg (gk0 - 1)
                case measure => have := HGK.out; omega
                case rel => exact ⟨halved ws, ⟨by rw [HGK.out]; exact HF3.out⟩, ⟨by unfold halved; rw [List.length_map]; have := HLL.out; have := HL.out; omega⟩, HOj, HBj⟩
def tree_Lengths.f (l0 : List Int) (a1 : Int) : Option (List Int × Int) := lensOf l0 a1
set_option maxHeartbeats 8000000 in
set_option maxRecDepth 100000 in
theorem tree_Lengths.calls (A0 : Option Addr) (c0 : Nat) (l0 : List Int) (a1 : Int) (r1 : List Int) (r2 : Int) (w : World) (hr0 : Kd.C (Kd.int .i64) w A0 l0.length l0) (hc0 : l0.length ≤ c0) (h : tree_Lengths.f l0 a1 = some (r1, r2)) :
    Calls Try.prog 36 #[.slice A0 l0.length c0, .int .i64 a1] w fun e w' => ∃ v0_ : Value, e = .returned (.tuple #[v0_, .int .i64 r2]) ∧ Kd.R (Kd.int .i64) 3 w' w.heap.size (fun _ => True) v0_ r1 ∧ Below w.heap.size w w' := lengths_calls A0 c0 l0 a1 r1 r2 w hr0 hc0 h

-- PART
end Go.Proofs.Ytcjijhjdkgjgeaa.P
