-- Written by a program of this session out of the translation. Lean checks it.
import Derived.Test.YtlffpaploefljaaPx0
import Derived.Test.YtlffpaploefljaaPx10
import Derived.Test.YtlffpaploefljaaPx26
namespace Go.Proofs.Ytlffpaploefljaa.P
open Go.RowKit Go.Proofs.YtlffpaploefljaaW.PrintWords Go.Proofs.YtlffpaploefljaaW.PrintLast Go.Proofs.YtlffpaploefljaaW.PrintMore
open List (setIfInBounds_toArray set_cons_zero set_cons_succ)
attribute [local go_sem] max2_int min2_int max_two min_two max_three min_three max_four min_four   -- for this text's walks alone
set_option linter.unusedVariables false
set_option linter.unusedSimpArgs false

/-! ### sym_Weights: function 63 -/
def sym_Weights.l0 : Nat → List Int → List Int → List (S53) → Int → Int → Option (List Int × List Int × Int)
 | 0, _, _, _, _, _ => none
 | k + 1, x2, x3, x22, x23, x24 => if x24 < x23 then (if 0 ≤ x24 then (if x24 < (x22.length : Int) then (if ((rd_T53 x22 x24).f1) = 0 then (if 0 ≤ ((rd_T53 x22 x24).f0) then (if ((rd_T53 x22 x24).f0) < (x2.length : Int) then (sym_Weights.l0 k (x2.set (((rd_T53 x22 x24).f0) : Int).toNat (wrap64 ((rd x2 ((rd_T53 x22 x24).f0)) + 1))) x3 x22 x23 (wrap64 (x24 + 1))) else (none)) else (none)) else ((sym_Len.f k ((rd_T53 x22 x24).f1)).bind fun bt176 => ((sym_Dist.f k ((rd_T53 x22 x24).f2)).bind fun bt180 => (if 0 ≤ bt176.1 then (if bt176.1 < (x2.length : Int) then (if 0 ≤ bt180.1 then (if bt180.1 < (x3.length : Int) then (sym_Weights.l0 k (x2.set (bt176.1 : Int).toNat (wrap64 ((rd x2 bt176.1) + 1))) (x3.set (bt180.1 : Int).toNat (wrap64 ((rd x3 bt180.1) + 1))) x22 x23 (wrap64 (x24 + 1))) else (none)) else (none)) else (none)) else (none))))) else (none)) else (none)) else (if 256 < (x2.length : Int) then (some ((x2.set (256 : Int).toNat (wrap64 ((rd x2 256) + 1))), x3, 0)) else (none))
def sym_Weights.f (k : Nat) (l0 : List (S53)) : Option (List Int × List Int × Int) := (match_Check.f k l0).bind fun t163 => (if t163 = 0 then (if 286 ≤ 35184372088832 then (if 30 ≤ 35184372088832 then (sym_Weights.l0 k (List.replicate 286 0) (List.replicate 30 0) l0 (l0.length : Int) 0) else (none)) else (none)) else (some (([] : List Int), ([] : List Int), t163)))
set_option maxHeartbeats 8000000 in
set_option maxRecDepth 100000 in
theorem sym_Weights.calls (k : Nat) (A0 : Option Addr) (c0 : Nat) (l0 : List (S53)) (r1 : List Int) (r2 : List Int) (r3 : Int) (w : World) (hr0 : Kd.C k53 w A0 l0.length l0) (hc0 : l0.length ≤ c0) (h : sym_Weights.f k l0 = some (r1, r2, r3)) :
  Calls Try.prog 63 #[.slice A0 l0.length c0] w fun e w' => ∃ v0_ v1_ : Value, e = .returned (.tuple #[v0_, v1_, .int .i64 r3]) ∧ Kd.R (Kd.int .i64) 3 w' w.heap.size (fun k_ => some k_ ≠ (v1_ : Value).ownBlock) v0_ r1 ∧ Kd.R (Kd.int .i64) 3 w' w.heap.size (fun k_ => some k_ ≠ (v0_ : Value).ownBlock) v1_ r2 ∧ Below w.heap.size w w' := by
 have hu53 := Try.underlying53
 have HR0 := Aside0.mk hr0
 have HC0 := Aside0.mk hc0
 clear hr0 hc0
 have HB := Aside0.mk (Below.refl w.heap.size w)
 have H : ((match_Check.f k l0).bind fun t163 => (if t163 = 0 then (if 286 ≤ 35184372088832 then (if 30 ≤ 35184372088832 then (sym_Weights.l0 k (List.replicate 286 0) (List.replicate 30 0) l0 (l0.length : Int) 0) else (none)) else (none)) else (some (([] : List Int), ([] : List Int), t163)))) = some (r1, r2, r3) := h
 clear h
 replace H := Option.bind_eq_some_iff.mp H
 obtain ⟨t163, A20, H⟩ := H
 replace H : (if t163 = 0 then (if 286 ≤ 35184372088832 then (if 30 ≤ 35184372088832 then (sym_Weights.l0 k (List.replicate 286 0) (List.replicate 30 0) l0 (l0.length : Int) 0) else (none)) else (none)) else (some (([] : List Int), ([] : List Int), t163))) = some (r1, r2, r3) := H
 have A2 := Aside0.mk A20
 clear A20
 by_cases c3 : t163 = 0
 ·rw [if_pos c3] at H
  have c3b0 : (t163 == 0) = true := beq_iff_eq.mpr c3
  have c3b1 : (t163 != 0) = false := bne_eq_false_iff_eq.mpr c3
  clear c3
  by_cases c4 : 286 ≤ 35184372088832
  ·rw [if_pos c4] at H
   have c4b0 := eq_true c4
   have c4b1 : decide (286 ≤ 35184372088832) = true := decide_eq_true c4
   clear c4
   obtain ⟨y164, hy164⟩ : ∃ y_ : List Int, y_ = (List.replicate 286 0) := ⟨_, rfl⟩
   replace H : (if 30 ≤ 35184372088832 then (sym_Weights.l0 k y164 (List.replicate 30 0) l0 (l0.length : Int) 0) else (none)) = some (r1, r2, r3) := by first | (rw [hy164]; with_reducible exact H) | (have H2_ := (Option.bind_some _ _).symm.trans H; rw [hy164]; with_reducible exact H2_) | (have H2_ := (Option.bind_some _ _).symm.trans H; with_reducible exact H2_) | with_reducible exact H | (rw [hy164]; exact H) | exact H
   have Ny164 := Aside0.mk hy164
   clear hy164
   by_cases c5 : 30 ≤ 35184372088832
   ·rw [if_pos c5] at H
    have c5b0 := eq_true c5
    have c5b1 : decide (30 ≤ 35184372088832) = true := decide_eq_true c5
    clear c5
    obtain ⟨y167, hy167⟩ : ∃ y_ : List Int, y_ = (List.replicate 30 0) := ⟨_, rfl⟩
    replace H : (sym_Weights.l0 k y164 y167 l0 (l0.length : Int) 0) = some (r1, r2, r3) := by first | (rw [hy167]; with_reducible exact H) | (have H2_ := (Option.bind_some _ _).symm.trans H; rw [hy167]; with_reducible exact H2_) | (have H2_ := (Option.bind_some _ _).symm.trans H; with_reducible exact H2_) | with_reducible exact H | (rw [hy167]; exact H) | exact H
    have Ny167 := Aside0.mk hy167
    clear hy167
    have H' := Aside0.mk H
    clear H
    go_enter Try.func63, Try.ntmps63
    try go_wp2_with (first | ((with_reducible refine gate_callee (f := 88) rfl ?_); refine goesL_ (some 16) rfl rfl Try.func88 (by kernel_rfl) rfl #[.slice A0 l0.length c0] rfl (by (try simp only [List.map_toArray, List.map_cons, List.map_nil]); first | done | rfl | (simp only [List.length_drop, List.length_take]; rfl)) ?_; (with_reducible refine (match_Check.calls k _ _ l0 t163 _ ?side1 ?side2 A2.out).mono ?_); (case side1 => repeat (first | exact HR0.out | (with_reducible refine Kd.C_alloc ?_ _) | (with_reducible refine Kd.C_drewN ?_ _) | (with_reducible refine Kd.C_drew ?_))); (case side2 => exact HC0.out); rintro e w6 ⟨rfl, hb⟩; refine ⟨_, rfl, ?_⟩; have n0_ := Aside0.mk (below_step (by repeat (first | (with_reducible first | exact HB.out | apply below_alloc | apply pw_below_drewN | apply below_drew1) | exact HB.out)) hb); clear HB; have HB := n0_; clear n0_; (try clear hb); (try clear hb2); (try clear hk); (try clear hi)))
    have n0_ := Aside0.mk (below_drew1 HB.out)
    clear HB
    have HB := n0_
    clear n0_
    refine start_ (n := 4) (S := fun w' => True) (ds := []) #[false, false, false, false] (by kernel_rfl) rfl rfl trivial (fun hHeld => ?_)
    generalize w6.drew = w7 at HB hHeld ⊢
    refine join_ (σ := Value × Value) 1 #[true, true, true, false] (fun s_ => [(20, s_.1), (21, s_.2), (2, s_.1)]) (fun s_ w' => (Kd.R (Kd.int .i64) 3 w' w.heap.size (fun k_ => some k_ ≠ (s_.2 : Value).ownBlock) s_.1 y164) ∧ (Kd.R (Kd.int .i64) 3 w' w.heap.size (fun k_ => some k_ ≠ (s_.1 : Value).ownBlock) s_.2 y167) ∧ (Below w.heap.size w w')) ?_ ?_
    rotate_left
    ·intro hCont
     refine two_ (i := 0) (j := 1) (Ni := some 20) (Nj := some 21) #[true, false, false, false] #[false, true, false, false] rfl rfl rfl rfl (by kernel_rfl) (by decide) (by decide) (fun K hK => ?_) (fun K hK => ?_)
     ·skip
      refine Kd.R_make_step (Kd.int .i64) _ 3 (by rfl) (N := 20) rfl 32 _ _ rfl 286 rfl rfl Try.underlying32 (.int .i64 0) 8 info3 rfl (by decide) (by omega) 0 (ok := fun _ => True) (okp := fun _ => True) rfl (fun _ hk => hk) trivial (by omega) (by omega) (Below.refl _ _) (Nat.le_refl _) ?_
      intro v165 w8 ho9 hb hg_ hnew_
      clear hg_ hnew_
      (first | rw [← Ny164.out] at ho9 | (simp only [Int.reduceToNat] at ho9; rw [← Ny164.out] at ho9))
      have n0_ := Aside0.mk (Kd.R_lower ho9 (below_size (by repeat (first | (with_reducible first | exact HB.out | apply below_alloc | apply pw_below_drewN | apply below_drew1) | exact HB.out))))
      have n1_ := Aside0.mk (below_step (by repeat (first | (with_reducible first | exact HB.out | apply below_alloc | apply pw_below_drewN | apply below_drew1) | exact HB.out)) hb)
      clear HB
      have HO166 := n0_
      have HB := n1_
      clear n0_ n1_
      clear hb ho9
      refine hK.out _ _ trivial (fun hHeld => ?_)
      clear hK K
      refine norm_ (a' := ?_) ?_ ?_
      rotate_left
      ·show Act.put _ (some 20) _ = _
       simp only [Act.put, setIfInBounds_toArray, set_cons_zero, set_cons_succ, i64_w, i32_w]
       rfl
      refine pure_ (i := 2) (N := some 2) (v := ?_) (a' := ?_) #[true, false, true, false] rfl rfl (by kernel_rfl) (fun _ _ _ h => h) (Or.inl ⟨by rfl, ?_⟩) ?_ ?_; rotate_left; (intro w'; go_simp; with_reducible rfl); rotate_left; (simp only [Act.put, setIfInBounds_toArray, set_cons_zero, set_cons_succ, i64_w, i32_w]; rfl)
      refine one_ (i := 1) (N := some 21) #[true, true, true, false] rfl rfl (by kernel_rfl) (by decide) (fun K hK => ?_)
      refine Kd.R_make_step (Kd.int .i64) _ 3 (by rfl) (N := 21) rfl 32 _ _ rfl 30 rfl rfl Try.underlying32 (.int .i64 0) 8 info3 rfl (by decide) (by omega) 0 (ok := fun _ => True) (okp := fun _ => True) rfl (fun _ hk => hk) trivial (by omega) (by omega) (Below.refl _ _) (Nat.le_refl _) ?_
      intro v168 w10 ho11 hb hg_ hnew_
      clear hg_ hnew_
      (first | rw [← Ny167.out] at ho11 | (simp only [Int.reduceToNat] at ho11; rw [← Ny167.out] at ho11))
      have n0_ := Aside0.mk (Kd.R_elder' (by (with_reducible repeat (first | apply Kd.R_alloc | apply Kd.R_drewN | apply Kd.R_drew)); exact HO166.out) (Kd.R_base ho11) hb)
      have n1_ := Aside0.mk (Kd.R_lower (Kd.R_new' ho11 (Kd.R_lt (by (with_reducible repeat (first | apply Kd.R_alloc | apply Kd.R_drewN | apply Kd.R_drew)); exact HO166.out))) (below_size (by repeat (first | (with_reducible first | exact HB.out | apply below_alloc | apply pw_below_drewN | apply below_drew1) | exact HB.out))))
      have n2_ := Aside0.mk (below_step (by repeat (first | (with_reducible first | exact HB.out | apply below_alloc | apply pw_below_drewN | apply below_drew1) | exact HB.out)) hb)
      clear HO166
      clear HB
      have HO166 := n0_
      have HO169 := n1_
      have HB := n2_
      clear n0_ n1_ n2_
      clear hb ho11
      refine hK.out _ _ trivial (fun hHeld => ?_)
      clear hK K
      refine norm_ (a' := ?_) ?_ ?_
      rotate_left
      ·show Act.put _ (some 21) _ = _
       simp only [Act.put, setIfInBounds_toArray, set_cons_zero, set_cons_succ, i64_w, i32_w]
       rfl
      exact norm_ (by simp only [putAll, Act.put, setIfInBounds_toArray, set_cons_zero, set_cons_succ]) (hCont (v165, v168) _ ⟨(by (with_reducible repeat (first | apply Kd.R_alloc | apply Kd.R_drewN | apply Kd.R_drew)); exact Kd.R_mono HO166.out (fun _ hk => hk.2)), (by (with_reducible repeat (first | apply Kd.R_alloc | apply Kd.R_drewN | apply Kd.R_drew)); exact Kd.R_mono HO169.out (fun _ hk => hk.2)), (by repeat (first | (with_reducible first | exact HB.out | apply below_alloc | apply pw_below_drewN | apply below_drew1) | exact HB.out))⟩)
     ·skip
      refine Kd.R_make_step (Kd.int .i64) _ 3 (by rfl) (N := 21) rfl 32 _ _ rfl 30 rfl rfl Try.underlying32 (.int .i64 0) 8 info3 rfl (by decide) (by omega) 0 (ok := fun _ => True) (okp := fun _ => True) rfl (fun _ hk => hk) trivial (by omega) (by omega) (Below.refl _ _) (Nat.le_refl _) ?_
      intro v168 w8 ho9 hb hg_ hnew_
      clear hg_ hnew_
      (first | rw [← Ny167.out] at ho9 | (simp only [Int.reduceToNat] at ho9; rw [← Ny167.out] at ho9))
      have n0_ := Aside0.mk (Kd.R_lower ho9 (below_size (by repeat (first | (with_reducible first | exact HB.out | apply below_alloc | apply pw_below_drewN | apply below_drew1) | exact HB.out))))
      have n1_ := Aside0.mk (below_step (by repeat (first | (with_reducible first | exact HB.out | apply below_alloc | apply pw_below_drewN | apply below_drew1) | exact HB.out)) hb)
      clear HB
      have HO169 := n0_
      have HB := n1_
      clear n0_ n1_
      clear hb ho9
      refine hK.out _ _ trivial (fun hHeld => ?_)
      clear hK K
      refine norm_ (a' := ?_) ?_ ?_
      rotate_left
      ·show Act.put _ (some 21) _ = _
       simp only [Act.put, setIfInBounds_toArray, set_cons_zero, set_cons_succ, i64_w, i32_w]
       rfl
      refine one_ (i := 0) (N := some 20) #[true, true, false, false] rfl rfl (by kernel_rfl) (by decide) (fun K hK => ?_)
      refine Kd.R_make_step (Kd.int .i64) _ 3 (by rfl) (N := 20) rfl 32 _ _ rfl 286 rfl rfl Try.underlying32 (.int .i64 0) 8 info3 rfl (by decide) (by omega) 0 (ok := fun _ => True) (okp := fun _ => True) rfl (fun _ hk => hk) trivial (by omega) (by omega) (Below.refl _ _) (Nat.le_refl _) ?_
      intro v165 w10 ho11 hb hg_ hnew_
      clear hg_ hnew_
      (first | rw [← Ny164.out] at ho11 | (simp only [Int.reduceToNat] at ho11; rw [← Ny164.out] at ho11))
      have n0_ := Aside0.mk (Kd.R_elder' (by (with_reducible repeat (first | apply Kd.R_alloc | apply Kd.R_drewN | apply Kd.R_drew)); exact HO169.out) (Kd.R_base ho11) hb)
      have n1_ := Aside0.mk (Kd.R_lower (Kd.R_new' ho11 (Kd.R_lt (by (with_reducible repeat (first | apply Kd.R_alloc | apply Kd.R_drewN | apply Kd.R_drew)); exact HO169.out))) (below_size (by repeat (first | (with_reducible first | exact HB.out | apply below_alloc | apply pw_below_drewN | apply below_drew1) | exact HB.out))))
      have n2_ := Aside0.mk (below_step (by repeat (first | (with_reducible first | exact HB.out | apply below_alloc | apply pw_below_drewN | apply below_drew1) | exact HB.out)) hb)
      clear HO169
      clear HB
      have HO169 := n0_
      have HO166 := n1_
      have HB := n2_
      clear n0_ n1_ n2_
      clear hb ho11
      refine hK.out _ _ trivial (fun hHeld => ?_)
      clear hK K
      refine norm_ (a' := ?_) ?_ ?_
      rotate_left
      ·show Act.put _ (some 20) _ = _
       simp only [Act.put, setIfInBounds_toArray, set_cons_zero, set_cons_succ, i64_w, i32_w]
       rfl
      refine pure_ (i := 2) (N := some 2) (v := ?_) (a' := ?_) #[true, true, true, false] rfl rfl (by kernel_rfl) (fun _ _ _ h => h) (Or.inl ⟨by rfl, ?_⟩) ?_ ?_; rotate_left; (intro w'; go_simp; with_reducible rfl); rotate_left; (simp only [Act.put, setIfInBounds_toArray, set_cons_zero, set_cons_succ, i64_w, i32_w]; rfl)
      exact norm_ (by simp only [putAll, Act.put, setIfInBounds_toArray, set_cons_zero, set_cons_succ]) (hCont (v165, v168) _ ⟨(by (with_reducible repeat (first | apply Kd.R_alloc | apply Kd.R_drewN | apply Kd.R_drew)); exact Kd.R_mono HO166.out (fun _ hk => hk.2)), (by (with_reducible repeat (first | apply Kd.R_alloc | apply Kd.R_drewN | apply Kd.R_drew)); exact Kd.R_mono HO169.out (fun _ hk => hk.2)), (by repeat (first | (with_reducible first | exact HB.out | apply below_alloc | apply pw_below_drewN | apply below_drew1) | exact HB.out))⟩)
    rintro ⟨v165, v168⟩ w12 ⟨h0_, h1_, h2_⟩
    have n0_ : Aside0 (Kd.R (Kd.int .i64) 3 w12 w.heap.size (fun k_ => some k_ ≠ (v168 : Value).ownBlock) v165 y164) := ⟨h0_⟩
    have n1_ : Aside0 (Kd.R (Kd.int .i64) 3 w12 w.heap.size (fun k_ => some k_ ≠ (v165 : Value).ownBlock) v168 y167) := ⟨h1_⟩
    have n2_ : Aside0 (Below w.heap.size w w12) := ⟨h2_⟩
    clear HB
    clear h0_ h1_ h2_
    have HO166 := n0_
    have HO169 := n1_
    have HB := n2_
    clear n0_ n1_ n2_
    have hHeld := trivial
    refine norm_ (a' := ?_) ?_ ?_
    rotate_left
    ·simp only [putAll, Act.put, setIfInBounds_toArray, set_cons_zero, set_cons_succ]
     rfl
    refine pure_ (i := 3) (N := some 3) (v := ?_) (a' := ?_) #[true, true, true, true] rfl rfl (by kernel_rfl) (fun _ _ _ h => h) (Or.inl ⟨by rfl, ?_⟩) ?_ ?_; rotate_left; (intro w'; go_simp; with_reducible rfl); rotate_left; (simp only [Act.put, setIfInBounds_toArray, set_cons_zero, set_cons_succ, i64_w, i32_w]; rfl)
    refine done_ (by kernel_rfl) ?_
    try go_wp2
    go_loopg [24] k (fun kq v24 w' => ∃ (x2_1 : List Int) (x3_1 : List Int) (x24_1 : Int), v24 = .int .i64 x24_1 ∧ Aside0 (sym_Weights.l0 kq x2_1 x3_1 l0 (l0.length : Int) x24_1 = some (r1, r2, r3)) ∧ Aside0 (kq ≤ k) ∧ Aside0 (Kd.R (Kd.int .i64) 3 w' w.heap.size (fun k_ => some k_ ≠ (v168 : Value).ownBlock) v165 x2_1) ∧ Aside0 (Kd.R (Kd.int .i64) 3 w' w.heap.size (fun k_ => some k_ ≠ (v165 : Value).ownBlock) v168 x3_1) ∧ Aside0 (Below w.heap.size w w'))
    case atStart => exact ⟨(y164), (y167), (0), (by first | rfl | (simp; done) | (simp [*]; done)), H', ⟨Nat.le_refl _⟩, ⟨by (with_reducible repeat (first | apply Kd.R_alloc | apply Kd.R_drewN | apply Kd.R_drew)); exact HO166.out⟩, ⟨by (with_reducible repeat (first | apply Kd.R_alloc | apply Kd.R_drewN | apply Kd.R_drew)); exact HO169.out⟩, ⟨by repeat (first | (with_reducible first | exact HB.out | apply below_alloc | apply pw_below_drewN | apply below_drew1) | exact HB.out)⟩⟩
    case round =>
     clear H'
     try clear p2
     try clear c3
     try clear c3b0
     try clear c3b1
     try clear c4
     try clear c4b0
     try clear c4b1
     try clear c5
     try clear c5b0
     try clear c5b1
     try clear c6
     try clear c8
     obtain ⟨x2_1, x3_1, x24_1, rfl, HA, HK1, HO_2, HO_3, HB⟩ := hrel
     cases gk with
     | zero => exact absurd HA.out (by simp [sym_Weights.l0])
     | succ k1 =>
      have H := HA.out
      clear HA
      simp only [sym_Weights.l0] at H
      by_cases c13 : x24_1 < (l0.length : Int)
      ·rw [if_pos c13] at H
       have c13b0 : decide (x24_1 < (l0.length : Int)) = true := decide_eq_true c13
       clear c13
       by_cases c14 : 0 ≤ x24_1
       ·rw [if_pos c14] at H
        have c14b0 : decide (0 ≤ x24_1) = true := decide_eq_true c14
        clear c14
        by_cases c15 : x24_1 < (l0.length : Int)
        ·rw [if_pos c15] at H
         have c15b0 : decide (x24_1 < (l0.length : Int)) = true := decide_eq_true c15
         clear c15
         by_cases c16 : ((rd_T53 l0 x24_1).f1) = 0
         ·rw [if_pos c16] at H
          have c16b0 : (((rd_T53 l0 x24_1).f1) == 0) = true := beq_iff_eq.mpr c16
          have c16b1 : (((rd_T53 l0 x24_1).f1) != 0) = false := bne_eq_false_iff_eq.mpr c16
          clear c16
          by_cases c17 : 0 ≤ ((rd_T53 l0 x24_1).f0)
          ·rw [if_pos c17] at H
           have c17b0 : decide (0 ≤ ((rd_T53 l0 x24_1).f0)) = true := decide_eq_true c17
           clear c17
           by_cases c18 : ((rd_T53 l0 x24_1).f0) < (x2_1.length : Int)
           ·rw [if_pos c18] at H
            have c18b0 : decide (((rd_T53 l0 x24_1).f0) < (x2_1.length : Int)) = true := decide_eq_true c18
            clear c18
            obtain ⟨y175, hy175⟩ : ∃ y_ : List Int, y_ = (x2_1.set (((rd_T53 l0 x24_1).f0) : Int).toNat (wrap64 ((rd x2_1 ((rd_T53 l0 x24_1).f0)) + 1))) := ⟨_, rfl⟩
            replace H : (sym_Weights.l0 k1 y175 x3_1 l0 (l0.length : Int) (wrap64 (x24_1 + 1))) = some (r1, r2, r3) := by first | (rw [hy175]; with_reducible exact H) | (have H2_ := (Option.bind_some _ _).symm.trans H; rw [hy175]; with_reducible exact H2_) | (have H2_ := (Option.bind_some _ _).symm.trans H; with_reducible exact H2_) | with_reducible exact H | (rw [hy175]; exact H) | exact H
            have Ny175 := Aside0.mk hy175
            clear hy175
            have H' := Aside0.mk H
            clear H
            have p172 : 0 ≤ (x24_1 : Int) := of_decide_eq_true (by first | (with_reducible assumption) | assumption)
            have q172 : x24_1 < (l0.length : Int) := of_decide_eq_true (by first | (with_reducible assumption) | assumption)
            obtain ⟨ad172, e172, hx172_0, hx172_1, hx172_2⟩ := at_T53 HR0.out x24_1 p172 q172
            cases e172
            replace hx172_0 := (HB.out.cell (World.block_lt_of_cell? w _ hx172_0)).trans hx172_0
            replace hx172_1 := (HB.out.cell (World.block_lt_of_cell? w _ hx172_1)).trans hx172_1
            replace hx172_2 := (HB.out.cell (World.block_lt_of_cell? w _ hx172_2)).trans hx172_2
            replace p172 := eq_true p172
            replace q172 := eq_true q172
            go_wp2_with (first | ((with_reducible refine gate_dst (N := 6) rfl ?_); refine box_event ?hg (N := 6) ?hd (cs := #[.int .u8 0, .int .i64 0, .int .i64 0]) (t := 53) ?hr ?_; (case hd => rfl); (case hg => rfl); (case hr => first | (go_simp; done) | (go_simp; rfl)); intro gb173 hg w20 hbox hb; have n0_ := Aside0.mk (Kd.R_below (by (with_reducible repeat (first | apply Kd.R_alloc | apply Kd.R_drewN | apply Kd.R_drew)); exact HO_2.out) hb); have n1_ := Aside0.mk (Kd.R_below (by (with_reducible repeat (first | apply Kd.R_alloc | apply Kd.R_drewN | apply Kd.R_drew)); exact HO_3.out) hb); have n2_ := Aside0.mk (below_step (by repeat (first | (with_reducible first | exact HB.out | apply below_alloc | apply pw_below_drewN | apply below_drew1) | exact HB.out)) hb); have n3_ := Aside0.mk (hbox); have n4_ := Aside0.mk ((by rw [hg]; exact (below_size (by repeat (first | (with_reducible first | exact HB.out | apply below_alloc | apply pw_below_drewN | apply below_drew1) | exact HB.out))) : w.heap.size ≤ gb173)); have n5_ := Aside0.mk ((by rw [hg]; exact (below_size (by repeat (first | (with_reducible first | exact HB.out | apply below_alloc | apply pw_below_drewN | apply below_drew1) | exact HB.out))) : w.heap.size ≤ gb173)); clear HO_2; clear HO_3; clear HB; have HO_2 := n0_; have HO_3 := n1_; have HB := n2_; have BK173 := n3_; have GW173 := n4_; have GE173 := n5_; clear n0_ n1_ n2_ n3_ n4_ n5_; clear hb hbox hg; have hcz21_0 : w20.cell? ⟨gb173, 0, none⟩ = some (.int .u8 0) := (blk_cell BK173.out 0).trans rfl; have hcz21_1 : w20.cell? ⟨gb173, 1, none⟩ = some (.int .i64 0) := (blk_cell BK173.out 1).trans rfl; have hcz21_2 : w20.cell? ⟨gb173, 2, none⟩ = some (.int .i64 0) := (blk_cell BK173.out 2).trans rfl; have hfz21_0 := blk_frozen BK173.out 0; have hfz21_1 := blk_frozen BK173.out 1; have hfz21_2 := blk_frozen BK173.out 2) | ((with_reducible refine gate_store (t := 53) (p := 6) rfl ?_); refine store_event (t := 53) (p := 6) (v := ?vo_w22) (w1 := (((w20.setCell ⟨gb173, 0, none⟩ (.int .u8 ((rd_T53 l0 x24_1).f0))).setCell ⟨gb173, 1, none⟩ (.int .i64 ((rd_T53 l0 x24_1).f1))).setCell ⟨gb173, 2, none⟩ (.int .i64 ((rd_T53 l0 x24_1).f2)))) ?hg ?ho ?hn ?hr ?_; (case ho => rfl); (case hg => rfl); (case hn => rfl); (case hr => first | (go_simp; done) | (go_simp; rfl)); intro w22 hw; have n0_ : Aside0 (Kd.R (Kd.int .i64) 3 w22 w.heap.size (fun k_ => some k_ ≠ (v168 : Value).ownBlock) v165 x2_1) := ⟨(by rw [hw]; exact (by (with_reducible repeat (first | apply Kd.R_alloc | apply Kd.R_drewN | apply Kd.R_drew)); exact Kd.R_mono (Kd.R_far (p := ⟨gb173, 2, none⟩) (Kd.R_far (p := ⟨gb173, 1, none⟩) (Kd.R_far (p := ⟨gb173, 0, none⟩) (Kd.R_types HO_2.out BK173.out (by decide)) (fun _ hk => hk.2) (.int .u8 ((rd_T53 l0 x24_1).f0))) (fun _ hk => hk.2) (.int .i64 ((rd_T53 l0 x24_1).f1))) (fun _ hk => hk.2) (.int .i64 ((rd_T53 l0 x24_1).f2))) (fun _ hk => hk.1)))⟩; have n1_ : Aside0 (Kd.R (Kd.int .i64) 3 w22 w.heap.size (fun k_ => some k_ ≠ (v165 : Value).ownBlock) v168 x3_1) := ⟨(by rw [hw]; exact (by (with_reducible repeat (first | apply Kd.R_alloc | apply Kd.R_drewN | apply Kd.R_drew)); exact Kd.R_mono (Kd.R_far (p := ⟨gb173, 2, none⟩) (Kd.R_far (p := ⟨gb173, 1, none⟩) (Kd.R_far (p := ⟨gb173, 0, none⟩) (Kd.R_types HO_3.out BK173.out (by decide)) (fun _ hk => hk.2) (.int .u8 ((rd_T53 l0 x24_1).f0))) (fun _ hk => hk.2) (.int .i64 ((rd_T53 l0 x24_1).f1))) (fun _ hk => hk.2) (.int .i64 ((rd_T53 l0 x24_1).f2))) (fun _ hk => hk.1)))⟩; have n2_ : Aside0 (w22.heap[gb173]? = some (.cells #[.int .u8 ((rd_T53 l0 x24_1).f0), .int .i64 ((rd_T53 l0 x24_1).f1), .int .i64 ((rd_T53 l0 x24_1).f2)] 53 (0, 0))) := ⟨(by rw [hw]; exact (by (with_reducible repeat (first | refine blk_drewN ?_ _ | refine blk_drew ?_ | refine blk_alloc ?_ _)); refine blk_put (cs := #[.int .u8 ((rd_T53 l0 x24_1).f0), .int .i64 ((rd_T53 l0 x24_1).f1), .int .i64 0]) ?_ 2 _ rfl; (with_reducible repeat (first | refine blk_drewN ?_ _ | refine blk_drew ?_ | refine blk_alloc ?_ _)); refine blk_put (cs := #[.int .u8 ((rd_T53 l0 x24_1).f0), .int .i64 0, .int .i64 0]) ?_ 1 _ rfl; (with_reducible repeat (first | refine blk_drewN ?_ _ | refine blk_drew ?_ | refine blk_alloc ?_ _)); refine blk_put (cs := #[.int .u8 0, .int .i64 0, .int .i64 0]) ?_ 0 _ rfl; (with_reducible repeat (first | refine blk_drewN ?_ _ | refine blk_drew ?_ | refine blk_alloc ?_ _)); exact BK173.out))⟩; have n3_ : Aside0 (Below w.heap.size w w22) := ⟨(by rw [hw]; exact (by repeat (first | (with_reducible first | exact HB.out | apply below_alloc | apply pw_below_drewN | apply below_drew1 | refine below_set ?_ GE173.out) | exact HB.out)))⟩; clear hw; clear HO_2; clear HO_3; clear BK173; clear HB; have HO_2 := n0_; have HO_3 := n1_; have BK173 := n2_; have HB := n3_; clear n0_ n1_ n2_ n3_; have hcz23_0 : w22.cell? ⟨gb173, 0, none⟩ = some (.int .u8 ((rd_T53 l0 x24_1).f0)) := (blk_cell BK173.out 0).trans rfl; have hcz23_1 : w22.cell? ⟨gb173, 1, none⟩ = some (.int .i64 ((rd_T53 l0 x24_1).f1)) := (blk_cell BK173.out 1).trans rfl; have hcz23_2 : w22.cell? ⟨gb173, 2, none⟩ = some (.int .i64 ((rd_T53 l0 x24_1).f2)) := (blk_cell BK173.out 2).trans rfl; have hfz23_0 := blk_frozen BK173.out 0; have hfz23_1 := blk_frozen BK173.out 1; have hfz23_2 := blk_frozen BK173.out 2; obtain ⟨Ao24, co24, eo24⟩ := Kd.R_slice HO_2.out; subst eo24; have p174 : 0 ≤ (((rd_T53 l0 x24_1).f0) : Int) := of_decide_eq_true (by first | (with_reducible assumption) | assumption); have q174 : ((rd_T53 l0 x24_1).f0) < (x2_1.length : Int) := of_decide_eq_true (by first | (with_reducible assumption) | assumption); obtain ⟨ad174, e174, hx174_0⟩ := Kd.at_int (Kd.R_reads' HO_2.out).2.2 ((rd_T53 l0 x24_1).f0) p174 q174; cases e174; replace p174 := eq_true p174; replace q174 := eq_true q174; have p19 : 0 ≤ (((rd_T53 l0 x24_1).f0) : Int) := of_decide_eq_true (by first | (with_reducible assumption) | assumption); have q19 : (((rd_T53 l0 x24_1).f0) : Int) < ((x2_1.length : Int) : Int) := of_decide_eq_true (by first | (with_reducible assumption) | assumption); obtain ⟨go19, co19, eo19, gb19, gl19, cl19, HG19⟩ := Kd.R_form HO_2.out (by omega); (first | cases eo19 | (injection eo19 with ea_ en_ ec_; (first | subst ea_ | (injection ea_ with ea_; subst ea_)); subst ec_; clear en_)); have GB19 := Aside0.mk gb19; have GG19 := Aside0.mk HG19; clear gb19 gl19 HG19; (first | simp only [add_plain] at hx174_0 | skip); obtain ⟨hx19_0, hf19_0⟩ := Kd.R_celln 0 HO_2.out (((rd_T53 l0 x24_1).f0) : Int) p19 q19; replace p19 := eq_true p19; replace q19 := eq_true q19; obtain ⟨hy25_, hz25_⟩ := Kd.R_celln 0 HO_2.out (((rd_T53 l0 x24_1).f0) : Int) (of_decide_eq_true (by first | (with_reducible assumption) | assumption)) (of_decide_eq_true (by first | (with_reducible assumption) | assumption)); have HP25 := Kd.R_putg HO_2.out (((rd_T53 l0 x24_1).f0) : Int) (wrap64 ((rd x2_1 ((rd_T53 l0 x24_1).f0)) + 1))) | ((with_reducible refine gate_store (t := 3) (p := 37) rfl ?_); refine store_event (t := 3) (p := 37) (v := ?vo_w26) (w1 := (w22.setCell ⟨go19, (((rd_T53 l0 x24_1).f0) : Int).toNat, none⟩ (.int .i64 (wrap64 ((rd x2_1 ((rd_T53 l0 x24_1).f0)) + 1))))) ?hg ?ho ?hn ?hr ?_; (case ho => rfl); (case hg => rfl); (case hn => rfl); (case hr => first | (go_simp; done) | (go_simp; rfl)); intro w26 hw; have hg : w22.grownBy w26 (some go19) := (by rw [hw]; exact HP25.2); have hp_ : Kd.R (Kd.int .i64) 3 w26 w.heap.size (fun k_ => some k_ ≠ (v168 : Value).ownBlock) (.slice (some ⟨go19, 0, none⟩) x2_1.length co24) y175 := (by rw [hw, Ny175.out]; exact HP25.1); clear HP25; have n0_ := Aside0.mk (hp_); have n1_ := Aside0.mk (Kd.R_after (v := (.slice (some ⟨go19, 0, none⟩) x2_1.length co24)) (v1 := (.slice (some ⟨go19, 0, none⟩) x2_1.length co24)) (ok := (fun _ => True)) (by (with_reducible repeat (first | apply Kd.R_alloc | apply Kd.R_drewN | apply Kd.R_drew)); exact Kd.R_mono HO_3.out (fun _ hk => ⟨trivial, hk⟩)) hg (.inl rfl)); have n2_ := Aside0.mk (blk_grown (g := gb173) (o := .cells #[.int .u8 ((rd_T53 l0 x24_1).f0), .int .i64 ((rd_T53 l0 x24_1).f1), .int .i64 ((rd_T53 l0 x24_1).f2)] 53 (0, 0)) (by (with_reducible repeat (first | refine blk_drewN ?_ _ | refine blk_drew ?_ | refine blk_alloc ?_ _)); exact BK173.out) hg (Kd.R_ne HO_2.out BK173.out (by decide))); have n3_ := Aside0.mk ((by rw [hw]; exact below_set (HB.out) GB19.out : Below w.heap.size w w26)); clear HO_2; clear HO_3; clear BK173; clear HB; have HO_2 := n0_; have HO_3 := n1_; have BK173 := n2_; have HB := n3_; clear n0_ n1_ n2_ n3_; clear hg hw hp_))
            go_roundg k1
            case measure => have := HK1.out; omega
            case rel => exact ⟨(y175), (x3_1), (wrap64 (x24_1 + 1)), (by first | rfl | (simp; done) | (simp [*]; done)), H', ⟨by have := HK1.out; omega⟩, ⟨by (with_reducible repeat (first | apply Kd.R_alloc | apply Kd.R_drewN | apply Kd.R_drew)); exact HO_2.out⟩, ⟨by (with_reducible repeat (first | apply Kd.R_alloc | apply Kd.R_drewN | apply Kd.R_drew)); exact Kd.R_mono HO_3.out (fun _ hk => hk.2)⟩, ⟨by repeat (first | (with_reducible first | exact HB.out | apply below_alloc | apply pw_below_drewN | apply below_drew1 | refine below_set ?_ GE173.out) | exact HB.out)⟩⟩
           ·rw [if_neg c18] at H
            exact absurd H (by simp)
          ·rw [if_neg c17] at H
           exact absurd H (by simp)
         ·rw [if_neg c16] at H
          have c16b0 : (((rd_T53 l0 x24_1).f1) == 0) = false := beq_eq_false_iff_ne.mpr c16
          have c16b1 : (((rd_T53 l0 x24_1).f1) != 0) = true := bne_iff_ne.mpr c16
          replace H := Option.bind_eq_some_iff.mp H
          obtain ⟨⟨t176, t177, t178, t179⟩, A270, H⟩ := H
          replace H : ((sym_Dist.f k1 ((rd_T53 l0 x24_1).f2)).bind fun bt180 => (if 0 ≤ t176 then (if t176 < (x2_1.length : Int) then (if 0 ≤ bt180.1 then (if bt180.1 < (x3_1.length : Int) then (sym_Weights.l0 k1 (x2_1.set (t176 : Int).toNat (wrap64 ((rd x2_1 t176) + 1))) (x3_1.set (bt180.1 : Int).toNat (wrap64 ((rd x3_1 bt180.1) + 1))) l0 (l0.length : Int) (wrap64 (x24_1 + 1))) else (none)) else (none)) else (none)) else (none))) = some (r1, r2, r3) := H
          have A27 := Aside0.mk A270
          clear A270
          replace H := Option.bind_eq_some_iff.mp H
          obtain ⟨⟨t180, t181, t182, t183⟩, A280, H⟩ := H
          replace H : (if 0 ≤ t176 then (if t176 < (x2_1.length : Int) then (if 0 ≤ t180 then (if t180 < (x3_1.length : Int) then (sym_Weights.l0 k1 (x2_1.set (t176 : Int).toNat (wrap64 ((rd x2_1 t176) + 1))) (x3_1.set (t180 : Int).toNat (wrap64 ((rd x3_1 t180) + 1))) l0 (l0.length : Int) (wrap64 (x24_1 + 1))) else (none)) else (none)) else (none)) else (none)) = some (r1, r2, r3) := H
          have A28 := Aside0.mk A280
          clear A280
          by_cases c29 : 0 ≤ t176
          ·rw [if_pos c29] at H
           have c29b0 : decide (0 ≤ t176) = true := decide_eq_true c29
           clear c29
           by_cases c30 : t176 < (x2_1.length : Int)
           ·rw [if_pos c30] at H
            have c30b0 : decide (t176 < (x2_1.length : Int)) = true := decide_eq_true c30
            clear c30
            obtain ⟨y185, hy185⟩ : ∃ y_ : List Int, y_ = (x2_1.set (t176 : Int).toNat (wrap64 ((rd x2_1 t176) + 1))) := ⟨_, rfl⟩
            replace H : (if 0 ≤ t180 then (if t180 < (x3_1.length : Int) then (sym_Weights.l0 k1 y185 (x3_1.set (t180 : Int).toNat (wrap64 ((rd x3_1 t180) + 1))) l0 (l0.length : Int) (wrap64 (x24_1 + 1))) else (none)) else (none)) = some (r1, r2, r3) := by first | (rw [hy185]; with_reducible exact H) | (have H2_ := (Option.bind_some _ _).symm.trans H; rw [hy185]; with_reducible exact H2_) | (have H2_ := (Option.bind_some _ _).symm.trans H; with_reducible exact H2_) | with_reducible exact H | (rw [hy185]; exact H) | exact H
            have Ny185 := Aside0.mk hy185
            clear hy185
            by_cases c32 : 0 ≤ t180
            ·rw [if_pos c32] at H
             have c32b0 : decide (0 ≤ t180) = true := decide_eq_true c32
             clear c32
             by_cases c33 : t180 < (x3_1.length : Int)
             ·rw [if_pos c33] at H
              have c33b0 : decide (t180 < (x3_1.length : Int)) = true := decide_eq_true c33
              clear c33
              obtain ⟨y187, hy187⟩ : ∃ y_ : List Int, y_ = (x3_1.set (t180 : Int).toNat (wrap64 ((rd x3_1 t180) + 1))) := ⟨_, rfl⟩
              replace H : (sym_Weights.l0 k1 y185 y187 l0 (l0.length : Int) (wrap64 (x24_1 + 1))) = some (r1, r2, r3) := by first | (rw [hy187]; with_reducible exact H) | (have H2_ := (Option.bind_some _ _).symm.trans H; rw [hy187]; with_reducible exact H2_) | (have H2_ := (Option.bind_some _ _).symm.trans H; with_reducible exact H2_) | with_reducible exact H | (rw [hy187]; exact H) | exact H
              have Ny187 := Aside0.mk hy187
              clear hy187
              have H' := Aside0.mk H
              clear H
              have p172 : 0 ≤ (x24_1 : Int) := of_decide_eq_true (by first | (with_reducible assumption) | assumption)
              have q172 : x24_1 < (l0.length : Int) := of_decide_eq_true (by first | (with_reducible assumption) | assumption)
              obtain ⟨ad172, e172, hx172_0, hx172_1, hx172_2⟩ := at_T53 HR0.out x24_1 p172 q172
              cases e172
              replace hx172_0 := (HB.out.cell (World.block_lt_of_cell? w _ hx172_0)).trans hx172_0
              replace hx172_1 := (HB.out.cell (World.block_lt_of_cell? w _ hx172_1)).trans hx172_1
              replace hx172_2 := (HB.out.cell (World.block_lt_of_cell? w _ hx172_2)).trans hx172_2
              replace p172 := eq_true p172
              replace q172 := eq_true q172
              go_wp2_with (first | ((with_reducible refine gate_dst (N := 6) rfl ?_); refine box_event ?hg (N := 6) ?hd (cs := #[.int .u8 0, .int .i64 0, .int .i64 0]) (t := 53) ?hr ?_; (case hd => rfl); (case hg => rfl); (case hr => first | (go_simp; done) | (go_simp; rfl)); intro gb173 hg w35 hbox hb; have n0_ := Aside0.mk (Kd.R_below (by (with_reducible repeat (first | apply Kd.R_alloc | apply Kd.R_drewN | apply Kd.R_drew)); exact HO_2.out) hb); have n1_ := Aside0.mk (Kd.R_below (by (with_reducible repeat (first | apply Kd.R_alloc | apply Kd.R_drewN | apply Kd.R_drew)); exact HO_3.out) hb); have n2_ := Aside0.mk (below_step (by repeat (first | (with_reducible first | exact HB.out | apply below_alloc | apply pw_below_drewN | apply below_drew1) | exact HB.out)) hb); have n3_ := Aside0.mk (hbox); have n4_ := Aside0.mk ((by rw [hg]; exact (below_size (by repeat (first | (with_reducible first | exact HB.out | apply below_alloc | apply pw_below_drewN | apply below_drew1) | exact HB.out))) : w.heap.size ≤ gb173)); have n5_ := Aside0.mk ((by rw [hg]; exact (below_size (by repeat (first | (with_reducible first | exact HB.out | apply below_alloc | apply pw_below_drewN | apply below_drew1) | exact HB.out))) : w.heap.size ≤ gb173)); clear HO_2; clear HO_3; clear HB; have HO_2 := n0_; have HO_3 := n1_; have HB := n2_; have BK173 := n3_; have GW173 := n4_; have GE173 := n5_; clear n0_ n1_ n2_ n3_ n4_ n5_; clear hb hbox hg; have hcz36_0 : w35.cell? ⟨gb173, 0, none⟩ = some (.int .u8 0) := (blk_cell BK173.out 0).trans rfl; have hcz36_1 : w35.cell? ⟨gb173, 1, none⟩ = some (.int .i64 0) := (blk_cell BK173.out 1).trans rfl; have hcz36_2 : w35.cell? ⟨gb173, 2, none⟩ = some (.int .i64 0) := (blk_cell BK173.out 2).trans rfl; have hfz36_0 := blk_frozen BK173.out 0; have hfz36_1 := blk_frozen BK173.out 1; have hfz36_2 := blk_frozen BK173.out 2) | ((with_reducible refine gate_callee (f := 86) rfl ?_); refine goesL_ (some 41) rfl rfl Try.func86 (by kernel_rfl) rfl #[.int .i64 ((rd_T53 l0 x24_1).f1)] rfl (by (try simp only [List.map_toArray, List.map_cons, List.map_nil]); first | done | rfl | (simp only [List.length_drop, List.length_take]; rfl)) ?_; (with_reducible refine (sym_Len.calls k1 ((rd_T53 l0 x24_1).f1) t176 t177 t178 t179 _ A27.out).mono ?_); rintro e w37 ⟨rfl, hb⟩; refine ⟨_, rfl, ?_⟩; have n0_ := Aside0.mk (Kd.R_below (by (with_reducible repeat (first | apply Kd.R_alloc | apply Kd.R_drewN | apply Kd.R_drew)); exact (Kd.R_mono (Kd.R_far (p := ⟨gb173, 2, none⟩) (Kd.R_far (p := ⟨gb173, 1, none⟩) (Kd.R_far (p := ⟨gb173, 0, none⟩) (Kd.R_types HO_2.out BK173.out (by decide)) (fun _ hk => hk.2) (.int .u8 ((rd_T53 l0 x24_1).f0))) (fun _ hk => hk.2) (.int .i64 ((rd_T53 l0 x24_1).f1))) (fun _ hk => hk.2) (.int .i64 ((rd_T53 l0 x24_1).f2))) (fun _ h_ => h_.1))) hb); have n1_ := Aside0.mk (Kd.R_below (by (with_reducible repeat (first | apply Kd.R_alloc | apply Kd.R_drewN | apply Kd.R_drew)); exact (Kd.R_mono (Kd.R_far (p := ⟨gb173, 2, none⟩) (Kd.R_far (p := ⟨gb173, 1, none⟩) (Kd.R_far (p := ⟨gb173, 0, none⟩) (Kd.R_types HO_3.out BK173.out (by decide)) (fun _ hk => hk.2) (.int .u8 ((rd_T53 l0 x24_1).f0))) (fun _ hk => hk.2) (.int .i64 ((rd_T53 l0 x24_1).f1))) (fun _ hk => hk.2) (.int .i64 ((rd_T53 l0 x24_1).f2))) (fun _ h_ => h_.1))) hb); have n2_ := Aside0.mk (blk_below (g := gb173) (o := .cells #[.int .u8 ((rd_T53 l0 x24_1).f0), .int .i64 ((rd_T53 l0 x24_1).f1), .int .i64 ((rd_T53 l0 x24_1).f2)] 53 (0, 0)) (by (with_reducible repeat (first | refine blk_drewN ?_ _ | refine blk_drew ?_ | refine blk_alloc ?_ _)); refine blk_put (cs := #[.int .u8 ((rd_T53 l0 x24_1).f0), .int .i64 ((rd_T53 l0 x24_1).f1), .int .i64 0]) ?_ 2 _ rfl; (with_reducible repeat (first | refine blk_drewN ?_ _ | refine blk_drew ?_ | refine blk_alloc ?_ _)); refine blk_put (cs := #[.int .u8 ((rd_T53 l0 x24_1).f0), .int .i64 0, .int .i64 0]) ?_ 1 _ rfl; (with_reducible repeat (first | refine blk_drewN ?_ _ | refine blk_drew ?_ | refine blk_alloc ?_ _)); refine blk_put (cs := #[.int .u8 0, .int .i64 0, .int .i64 0]) ?_ 0 _ rfl; (with_reducible repeat (first | refine blk_drewN ?_ _ | refine blk_drew ?_ | refine blk_alloc ?_ _)); exact BK173.out) hb); have n3_ := Aside0.mk (below_step (by repeat (first | (with_reducible first | exact HB.out | apply below_alloc | apply pw_below_drewN | apply below_drew1 | refine below_set ?_ GE173.out) | exact HB.out)) hb); clear HO_2; clear HO_3; clear BK173; clear HB; have HO_2 := n0_; have HO_3 := n1_; have BK173 := n2_; have HB := n3_; clear n0_ n1_ n2_ n3_; (try clear hb); (try clear hb2); (try clear hk); (try clear hi); have hcz38_0 : w37.cell? ⟨gb173, 0, none⟩ = some (.int .u8 ((rd_T53 l0 x24_1).f0)) := (blk_cell BK173.out 0).trans rfl; have hcz38_1 : w37.cell? ⟨gb173, 1, none⟩ = some (.int .i64 ((rd_T53 l0 x24_1).f1)) := (blk_cell BK173.out 1).trans rfl; have hcz38_2 : w37.cell? ⟨gb173, 2, none⟩ = some (.int .i64 ((rd_T53 l0 x24_1).f2)) := (blk_cell BK173.out 2).trans rfl; have hfz38_0 := blk_frozen BK173.out 0; have hfz38_1 := blk_frozen BK173.out 1; have hfz38_2 := blk_frozen BK173.out 2) | ((with_reducible refine gate_callee (f := 87) rfl ?_); refine goesL_ (some 49) rfl rfl Try.func87 (by kernel_rfl) rfl #[.int .i64 ((rd_T53 l0 x24_1).f2)] rfl (by (try simp only [List.map_toArray, List.map_cons, List.map_nil]); first | done | rfl | (simp only [List.length_drop, List.length_take]; rfl)) ?_; (with_reducible refine (sym_Dist.calls k1 ((rd_T53 l0 x24_1).f2) t180 t181 t182 t183 _ A28.out).mono ?_); rintro e w39 ⟨rfl, hb⟩; refine ⟨_, rfl, ?_⟩; have n0_ := Aside0.mk (Kd.R_below (by (with_reducible repeat (first | apply Kd.R_alloc | apply Kd.R_drewN | apply Kd.R_drew)); exact HO_2.out) hb); have n1_ := Aside0.mk (Kd.R_below (by (with_reducible repeat (first | apply Kd.R_alloc | apply Kd.R_drewN | apply Kd.R_drew)); exact HO_3.out) hb); have n2_ := Aside0.mk (blk_below (g := gb173) (o := .cells #[.int .u8 ((rd_T53 l0 x24_1).f0), .int .i64 ((rd_T53 l0 x24_1).f1), .int .i64 ((rd_T53 l0 x24_1).f2)] 53 (0, 0)) (by (with_reducible repeat (first | refine blk_drewN ?_ _ | refine blk_drew ?_ | refine blk_alloc ?_ _)); exact BK173.out) hb); have n3_ := Aside0.mk (below_step (by repeat (first | (with_reducible first | exact HB.out | apply below_alloc | apply pw_below_drewN | apply below_drew1 | refine below_set ?_ GE173.out) | exact HB.out)) hb); clear HO_2; clear HO_3; clear BK173; clear HB; have HO_2 := n0_; have HO_3 := n1_; have BK173 := n2_; have HB := n3_; clear n0_ n1_ n2_ n3_; (try clear hb); (try clear hb2); (try clear hk); (try clear hi); obtain ⟨Ao40, co40, eo40⟩ := Kd.R_slice HO_2.out; subst eo40; have p184 : 0 ≤ (t176 : Int) := of_decide_eq_true (by first | (with_reducible assumption) | assumption); have q184 : t176 < (x2_1.length : Int) := of_decide_eq_true (by first | (with_reducible assumption) | assumption); obtain ⟨ad184, e184, hx184_0⟩ := Kd.at_int (Kd.R_reads' HO_2.out).2.2 t176 p184 q184; cases e184; replace p184 := eq_true p184; replace q184 := eq_true q184; have p31 : 0 ≤ (t176 : Int) := of_decide_eq_true (by first | (with_reducible assumption) | assumption); have q31 : (t176 : Int) < ((x2_1.length : Int) : Int) := of_decide_eq_true (by first | (with_reducible assumption) | assumption); obtain ⟨go31, co31, eo31, gb31, gl31, cl31, HG31⟩ := Kd.R_form HO_2.out (by omega); (first | cases eo31 | (injection eo31 with ea_ en_ ec_; (first | subst ea_ | (injection ea_ with ea_; subst ea_)); subst ec_; clear en_)); have GB31 := Aside0.mk gb31; have GG31 := Aside0.mk HG31; clear gb31 gl31 HG31; (first | simp only [add_plain] at hx184_0 | skip); obtain ⟨hx31_0, hf31_0⟩ := Kd.R_celln 0 HO_2.out (t176 : Int) p31 q31; replace p31 := eq_true p31; replace q31 := eq_true q31; obtain ⟨hy41_, hz41_⟩ := Kd.R_celln 0 HO_2.out (t176 : Int) (of_decide_eq_true (by first | (with_reducible assumption) | assumption)) (of_decide_eq_true (by first | (with_reducible assumption) | assumption)); have HP41 := Kd.R_putg HO_2.out (t176 : Int) (wrap64 ((rd x2_1 t176) + 1))) | ((with_reducible refine gate_store (t := 3) (p := 59) rfl ?_); refine store_event (t := 3) (p := 59) (v := ?vo_w42) (w1 := (w39.setCell ⟨go31, (t176 : Int).toNat, none⟩ (.int .i64 (wrap64 ((rd x2_1 t176) + 1))))) ?hg ?ho ?hn ?hr ?_; (case ho => rfl); (case hg => rfl); (case hn => rfl); (case hr => first | (go_simp; done) | (go_simp; rfl)); intro w42 hw; have hg : w39.grownBy w42 (some go31) := (by rw [hw]; exact HP41.2); have hp_ : Kd.R (Kd.int .i64) 3 w42 w.heap.size (fun k_ => some k_ ≠ (v168 : Value).ownBlock) (.slice (some ⟨go31, 0, none⟩) x2_1.length co40) y185 := (by rw [hw, Ny185.out]; exact HP41.1); clear HP41; have n0_ := Aside0.mk (hp_); have n1_ := Aside0.mk (Kd.R_after (v := (.slice (some ⟨go31, 0, none⟩) x2_1.length co40)) (v1 := (.slice (some ⟨go31, 0, none⟩) x2_1.length co40)) (ok := (fun _ => True)) (by (with_reducible repeat (first | apply Kd.R_alloc | apply Kd.R_drewN | apply Kd.R_drew)); exact Kd.R_mono HO_3.out (fun _ hk => ⟨trivial, hk⟩)) hg (.inl rfl)); have n2_ := Aside0.mk (blk_grown (g := gb173) (o := .cells #[.int .u8 ((rd_T53 l0 x24_1).f0), .int .i64 ((rd_T53 l0 x24_1).f1), .int .i64 ((rd_T53 l0 x24_1).f2)] 53 (0, 0)) (by (with_reducible repeat (first | refine blk_drewN ?_ _ | refine blk_drew ?_ | refine blk_alloc ?_ _)); exact BK173.out) hg (Kd.R_ne HO_2.out BK173.out (by decide))); have n3_ := Aside0.mk ((by rw [hw]; exact below_set (HB.out) GB31.out : Below w.heap.size w w42)); clear HO_2; clear HO_3; clear BK173; clear HB; have HO_2 := n0_; have HO_3 := n1_; have BK173 := n2_; have HB := n3_; clear n0_ n1_ n2_ n3_; clear hg hw hp_; obtain ⟨Ao43, co43, eo43⟩ := Kd.R_slice HO_3.out; subst eo43; have p186 : 0 ≤ (t180 : Int) := of_decide_eq_true (by first | (with_reducible assumption) | assumption); have q186 : t180 < (x3_1.length : Int) := of_decide_eq_true (by first | (with_reducible assumption) | assumption); obtain ⟨ad186, e186, hx186_0⟩ := Kd.at_int (Kd.R_reads' HO_3.out).2.2 t180 p186 q186; cases e186; replace p186 := eq_true p186; replace q186 := eq_true q186; have p34 : 0 ≤ (t180 : Int) := of_decide_eq_true (by first | (with_reducible assumption) | assumption); have q34 : (t180 : Int) < ((x3_1.length : Int) : Int) := of_decide_eq_true (by first | (with_reducible assumption) | assumption); obtain ⟨go34, co34, eo34, gb34, gl34, cl34, HG34⟩ := Kd.R_form HO_3.out (by omega); (first | cases eo34 | (injection eo34 with ea_ en_ ec_; (first | subst ea_ | (injection ea_ with ea_; subst ea_)); subst ec_; clear en_)); have GB34 := Aside0.mk gb34; have GG34 := Aside0.mk HG34; clear gb34 gl34 HG34; (first | simp only [add_plain] at hx186_0 | skip); obtain ⟨hx34_0, hf34_0⟩ := Kd.R_celln 0 HO_3.out (t180 : Int) p34 q34; replace p34 := eq_true p34; replace q34 := eq_true q34; have n_ := Aside0.mk (Kd.R_mono (ok' := (fun k_ => some k_ ≠ (.slice (some ⟨go31, 0, none⟩) x2_1.length co40 : Value).ownBlock)) HO_3.out (fun k_ hk => hk.2)); clear HO_3; have HO_3 := n_; clear n_; obtain ⟨hy44_, hz44_⟩ := Kd.R_celln 0 HO_3.out (t180 : Int) (of_decide_eq_true (by first | (with_reducible assumption) | assumption)) (of_decide_eq_true (by first | (with_reducible assumption) | assumption)); have HP44 := Kd.R_putg HO_3.out (t180 : Int) (wrap64 ((rd x3_1 t180) + 1))) | ((with_reducible refine gate_store (t := 3) (p := 65) rfl ?_); refine store_event (t := 3) (p := 65) (v := ?vo_w45) (w1 := (w42.setCell ⟨go34, (t180 : Int).toNat, none⟩ (.int .i64 (wrap64 ((rd x3_1 t180) + 1))))) ?hg ?ho ?hn ?hr ?_; (case ho => rfl); (case hg => rfl); (case hn => rfl); (case hr => first | (go_simp; done) | (go_simp; rfl)); intro w45 hw; have hg : w42.grownBy w45 (some go34) := (by rw [hw]; exact HP44.2); have hp_ : Kd.R (Kd.int .i64) 3 w45 w.heap.size (fun k_ => some k_ ≠ (.slice (some ⟨go31, 0, none⟩) x2_1.length co40 : Value).ownBlock) (.slice (some ⟨go34, 0, none⟩) x3_1.length co43) y187 := (by rw [hw, Ny187.out]; exact HP44.1); clear HP44; have n0_ := Aside0.mk (Kd.R_after (v := (.slice (some ⟨go34, 0, none⟩) x3_1.length co43)) (v1 := (.slice (some ⟨go34, 0, none⟩) x3_1.length co43)) (ok := (fun _ => True)) (by (with_reducible repeat (first | apply Kd.R_alloc | apply Kd.R_drewN | apply Kd.R_drew)); exact Kd.R_mono HO_2.out (fun _ hk => ⟨trivial, hk⟩)) hg (.inl rfl)); have n1_ := Aside0.mk (hp_); have n2_ := Aside0.mk (blk_grown (g := gb173) (o := .cells #[.int .u8 ((rd_T53 l0 x24_1).f0), .int .i64 ((rd_T53 l0 x24_1).f1), .int .i64 ((rd_T53 l0 x24_1).f2)] 53 (0, 0)) (by (with_reducible repeat (first | refine blk_drewN ?_ _ | refine blk_drew ?_ | refine blk_alloc ?_ _)); exact BK173.out) hg (Kd.R_ne HO_3.out BK173.out (by decide))); have n3_ := Aside0.mk ((by rw [hw]; exact below_set (HB.out) GB34.out : Below w.heap.size w w45)); clear HO_2; clear HO_3; clear BK173; clear HB; have HO_2 := n0_; have HO_3 := n1_; have BK173 := n2_; have HB := n3_; clear n0_ n1_ n2_ n3_; clear hg hw hp_))
              go_roundg k1
              case measure => have := HK1.out; omega
              case rel => exact ⟨(y185), (y187), (wrap64 (x24_1 + 1)), (by first | rfl | (simp; done) | (simp [*]; done)), H', ⟨by have := HK1.out; omega⟩, ⟨by (with_reducible repeat (first | apply Kd.R_alloc | apply Kd.R_drewN | apply Kd.R_drew)); exact Kd.R_mono HO_2.out (fun _ hk => hk.2)⟩, ⟨by (with_reducible repeat (first | apply Kd.R_alloc | apply Kd.R_drewN | apply Kd.R_drew)); exact HO_3.out⟩, ⟨by repeat (first | (with_reducible first | exact HB.out | apply below_alloc | apply pw_below_drewN | apply below_drew1 | refine below_set ?_ GE173.out) | exact HB.out)⟩⟩
             ·rw [if_neg c33] at H
              exact absurd H (by simp)
            ·rw [if_neg c32] at H
             exact absurd H (by simp)
           ·rw [if_neg c30] at H
            exact absurd H (by simp)
          ·rw [if_neg c29] at H
           exact absurd H (by simp)
        ·rw [if_neg c15] at H
         exact absurd H (by simp)
       ·rw [if_neg c14] at H
        exact absurd H (by simp)
      ·rw [if_neg c13] at H
       have c13b0 : decide (x24_1 < (l0.length : Int)) = false := decide_eq_false c13
       clear c13
       by_cases c46 : 256 < (x2_1.length : Int)
       ·rw [if_pos c46] at H
        have c46b0 : decide (256 < (x2_1.length : Int)) = true := decide_eq_true c46
        have c46b1 : decide (256 < x2_1.length) = true := decide_eq_true (by omega)
        clear c46
        obtain ⟨y171, hy171⟩ : ∃ y_ : List Int, y_ = (x2_1.set (256 : Int).toNat (wrap64 ((rd x2_1 256) + 1))) := ⟨_, rfl⟩
        replace H : (some (y171, x3_1, 0)) = some (r1, r2, r3) := by first | (rw [hy171]; with_reducible exact H) | (have H2_ := (Option.bind_some _ _).symm.trans H; rw [hy171]; with_reducible exact H2_) | (have H2_ := (Option.bind_some _ _).symm.trans H; with_reducible exact H2_) | with_reducible exact H | (rw [hy171]; exact H) | exact H
        have Ny171 := Aside0.mk hy171
        clear hy171
        simp only [Option.some.injEq, Prod.mk.injEq] at H
        obtain ⟨rfl, rfl, rfl⟩ := H
        obtain ⟨Ao48, co48, eo48⟩ := Kd.R_slice HO_2.out
        subst eo48
        have p170 : 0 ≤ (256 : Int) := (by omega)
        have q170 : 256 < (x2_1.length : Int) := of_decide_eq_true (by first | (with_reducible assumption) | assumption)
        obtain ⟨ad170, e170, hx170_0⟩ := Kd.at_int (Kd.R_reads' HO_2.out).2.2 256 p170 q170
        cases e170
        (try simp only [show (256 : Int).toNat = 256 from rfl, Nat.reduceMul, Nat.reduceEqDiff, Go.Addr.add, ↓reduceIte] at hx170_0)
        have qi170 : (256 < x2_1.length) = True := eq_true (by omega)
        (try rw [show ((256 : Int)).toNat = 256 from rfl] at hx170_0)
        replace p170 := eq_true p170
        replace q170 := eq_true q170
        have p47 : 0 ≤ (256 : Int) := (by omega)
        have q47 : (256 : Int) < ((x2_1.length : Int) : Int) := of_decide_eq_true (by first | (with_reducible assumption) | assumption)
        have qi47 : (256 < x2_1.length) = True := eq_true (by omega)
        obtain ⟨go47, co47, eo47, gb47, gl47, cl47, HG47⟩ := Kd.R_form HO_2.out (by omega)
        (first | cases eo47 | (injection eo47 with ea_ en_ ec_; (first | subst ea_ | (injection ea_ with ea_; subst ea_)); subst ec_; clear en_))
        have GB47 := Aside0.mk gb47
        have GG47 := Aside0.mk HG47
        clear gb47 gl47 HG47
        (first | simp only [add_plain] at hx170_0 | skip)
        obtain ⟨hx47_0, hf47_0⟩ := Kd.R_celln 0 HO_2.out (256 : Int) p47 q47
        (try rw [show ((256 : Int)).toNat = 256 from rfl] at hx47_0)
        (try simp only [Nat.reduceMul, Nat.zero_mul, Nat.zero_add, Nat.reduceAdd] at hx47_0)
        (try rw [show ((256 : Int)).toNat = 256 from rfl] at hf47_0)
        (try simp only [Nat.reduceMul, Nat.zero_mul, Nat.zero_add, Nat.reduceAdd] at hf47_0)
        replace p47 := eq_true p47
        replace q47 := eq_true q47
        have HP49 := Kd.R_putg HO_2.out (256 : Int) (wrap64 ((rd x2_1 256) + 1))
        go_wp2_with (first | ((with_reducible refine gate_store (t := 3) (p := 71) rfl ?_); refine store_event (t := 3) (p := 71) (v := ?vo_w50) (w1 := (wr.setCell ⟨go47, (256 : Int).toNat, none⟩ (.int .i64 (wrap64 ((rd x2_1 256) + 1))))) ?hg ?ho ?hn ?hr ?_; (case ho => rfl); (case hg => rfl); (case hn => rfl); (case hr => first | (go_simp; done) | (go_simp; rfl)); intro w50 hw; have hg : wr.grownBy w50 (some go47) := (by rw [hw]; exact HP49.2); have hp_ : Kd.R (Kd.int .i64) 3 w50 w.heap.size (fun k_ => some k_ ≠ (v168 : Value).ownBlock) (.slice (some ⟨go47, 0, none⟩) x2_1.length co48) y171 := (by rw [hw, Ny171.out]; exact HP49.1); clear HP49; have n0_ := Aside0.mk (hp_); have n1_ := Aside0.mk (Kd.R_after (v := (.slice (some ⟨go47, 0, none⟩) x2_1.length co48)) (v1 := (.slice (some ⟨go47, 0, none⟩) x2_1.length co48)) (ok := (fun _ => True)) (by (with_reducible repeat (first | apply Kd.R_alloc | apply Kd.R_drewN | apply Kd.R_drew)); exact Kd.R_mono HO_3.out (fun _ hk => ⟨trivial, hk⟩)) hg (.inl rfl)); have n2_ := Aside0.mk ((by rw [hw]; exact below_set (HB.out) GB47.out : Below w.heap.size w w50)); clear HO_2; clear HO_3; clear HB; have HO_2 := n0_; have HO_3 := n1_; have HB := n2_; clear n0_ n1_ n2_; clear hg hw hp_))
        go_ret3
        exact ⟨_, _, by first | rfl | (simp [errW_none, errW_some] <;> rfl) | (simp [*, errW_none, errW_some] <;> rfl), by (with_reducible repeat (first | apply Kd.R_alloc | apply Kd.R_drewN | apply Kd.R_drew)); exact HO_2.out, by (with_reducible repeat (first | apply Kd.R_alloc | apply Kd.R_drewN | apply Kd.R_drew)); exact Kd.R_mono HO_3.out (fun _ hk => hk.2), by repeat (first | (with_reducible first | exact HB.out | apply below_alloc | apply pw_below_drewN | apply below_drew1) | exact HB.out)⟩
       ·rw [if_neg c46] at H
        exact absurd H (by simp)
   ·rw [if_neg c5] at H
    exact absurd H (by simp)
  ·rw [if_neg c4] at H
   exact absurd H (by simp)
 ·rw [if_neg c3] at H
  have c3b0 : (t163 == 0) = false := beq_eq_false_iff_ne.mpr c3
  have c3b1 : (t163 != 0) = true := bne_iff_ne.mpr c3
  simp only [Option.some.injEq, Prod.mk.injEq] at H
  obtain ⟨rfl, rfl, rfl⟩ := H
  go_enter Try.func63, Try.ntmps63
  go_wp2_with (first | ((with_reducible refine gate_callee (f := 88) rfl ?_); refine goesL_ (some 16) rfl rfl Try.func88 (by kernel_rfl) rfl #[.slice A0 l0.length c0] rfl (by (try simp only [List.map_toArray, List.map_cons, List.map_nil]); first | done | rfl | (simp only [List.length_drop, List.length_take]; rfl)) ?_; (with_reducible refine (match_Check.calls k _ _ l0 t163 _ ?side1 ?side2 A2.out).mono ?_); (case side1 => repeat (first | exact HR0.out | (with_reducible refine Kd.C_alloc ?_ _) | (with_reducible refine Kd.C_drewN ?_ _) | (with_reducible refine Kd.C_drew ?_))); (case side2 => exact HC0.out); rintro e w51 ⟨rfl, hb⟩; refine ⟨_, rfl, ?_⟩; have n0_ := Aside0.mk (below_step (by repeat (first | (with_reducible first | exact HB.out | apply below_alloc | apply pw_below_drewN | apply below_drew1) | exact HB.out)) hb); clear HB; have HB := n0_; clear n0_; (try clear hb); (try clear hb2); (try clear hk); (try clear hi)))
  go_ret3
  exact ⟨_, _, by first | rfl | (simp [errW_none, errW_some] <;> rfl) | (simp [*, errW_none, errW_some] <;> rfl), by first | exact Kd.R_nil _ _ _ _ _ | exact Kd.N_nil _ _ _ _ _ | exact Kd.V_nil _ _ _ _ _ | exact Kd.Q_nil _ _ _ _ _ | exact Kd.S_nil _ _ _ _ _, by first | exact Kd.R_nil _ _ _ _ _ | exact Kd.N_nil _ _ _ _ _ | exact Kd.V_nil _ _ _ _ _ | exact Kd.Q_nil _ _ _ _ _ | exact Kd.S_nil _ _ _ _ _, by repeat (first | (with_reducible first | exact HB.out | apply below_alloc | apply pw_below_drewN | apply below_drew1) | exact HB.out)⟩

/-! ### slices_IndexFunc_int_int: function 76 (by hand) -/
/-- The first place at which p holds; -1: none. -/
def firstBad (p : Int → Bool) : List Int → Nat → Int
 | [], _ => -1
 | x :: xs, i => if p x then (i : Int) else firstBad p xs (i + 1)
theorem firstBad_drop (p : Int → Bool) (l : List Int) (i : Nat) (h : i < l.length) : firstBad p (l.drop i) i = if p (l.getD i 0) then (i : Int) else firstBad p (l.drop (i + 1)) (i + 1) := by
 rw [List.drop_eq_getElem_cons h, show l.getD i 0 = l[i] from by rw [List.getD_eq_getElem?_getD, List.getElem?_eq_getElem h]; rfl]
 rfl
theorem firstBad_iff (p : Int → Bool) : ∀ (l : List Int) (i : Nat), 0 ≤ firstBad p l i ↔ l.any p = true
 | [], _ => by simp [firstBad]
 | x :: xs, i => by
  have e : firstBad p (x :: xs) i = if p x = true then (i : Int) else firstBad p xs (i + 1) := rfl
  rw [e, List.any_cons]
  by_cases h : p x = true
  ·rw [if_pos h, h]; simp
  ·rw [if_neg h, firstBad_iff p xs (i + 1)]
   simp [h]
theorem firstBad_any (p : Int → Bool) (l : List Int) (i : Nat) : decide (0 ≤ firstBad p l i) = l.any p := by
 rw [Bool.eq_iff_iff, decide_eq_true_iff, firstBad_iff]
set_option maxHeartbeats 8000000 in
set_option maxRecDepth 100000 in
theorem index_func (F : Nat) (p : Int → Bool) (hE : ∀ (args : Array Value) (W : World), (callFunc F args).run Try.prog W = .ok (.enter F args) W) (hF : ∀ (x : Int) (W : World), Calls Try.prog F #[.int .i64 x] W fun e W' => e = .returned (.bool (p x)) ∧ Drawn0 W W') (A0 : Option Addr) (c0 : Nat) (l0 : List Int) (w : World)
  (hr0 : Kd.C (Kd.int .i64) w A0 l0.length l0) (hc0 : l0.length ≤ c0) :
  Calls Try.prog 76 #[.slice A0 l0.length c0, .func (.func F) #[] #[]] w fun e w' => e = .returned (.int .i64 (firstBad p l0 0)) ∧ Drawn0 w w' := by
 have HR := Aside0.mk hr0
 have hLm : l0.length ≤ 9223372036854775807 := hr0.2.1
 have HF := Aside0.mk hF
 have HD := Aside0.mk (Drawn0.refl w)
 clear hr0 hF
 go_enter Try.func76, Try.ntmps76
 go_wp2_with fail
 go_loopg [8] l0.length (fun kq v8 w' => ∃ i : Nat, v8 = .int .i64 i ∧ i ≤ l0.length ∧ Aside0 (kq + i = l0.length) ∧ Aside0 (firstBad p (l0.drop i) i = firstBad p l0 0) ∧ Aside0 (Drawn0 w w'))
 case atStart => exact ⟨0, rfl, by omega, ⟨rfl⟩, ⟨rfl⟩, HD⟩
 case round =>
  clear HD
  obtain ⟨i, rfl, hi, HG, HP, HD⟩ := hrel
  by_cases hlt : i < l0.length
  ·obtain ⟨ad, rfl, hcell⟩ := Kd.at_int (Kd.C_below HR.out HD.out.below) (i : Int) (by omega) (by omega)
   have HS := Aside0.mk (firstBad_drop p l0 i hlt)
   have e : rd l0 (i : Int) = l0.getD i 0 := by unfold rd; rw [Int.toNat_natCast]
   rw [Int.toNat_natCast, e] at hcell
   generalize l0.getD i 0 = x at hcell HS
   clear e
   have hEx := hE #[.int .i64 x] wr
   go_wp2_with fail
   refine (HF.out x wr).mono ?_
   rintro e1 w1 ⟨rfl, hd⟩
   have HD1 := Aside0.mk (show Drawn0 w w1 from by
    obtain ⟨m1, e1⟩ := HD.out.out
    obtain ⟨m2, e2⟩ := hd.out
    rw [e1] at e2
    exact ⟨⟨m1 + m2, by rw [e2, World.drewN_drewN]⟩⟩)
   clear hEx hcell hd
   generalize p x = q at HS ⊢
   cases q with
   | true =>
    go_wp2_with fail
    go_ret
    have h := HS.out
    rw [if_pos trivial, HP.out] at h
    rw [h]
    exact ⟨rfl, HD1.out⟩
   | false =>
    go_wp2_with fail
    go_roundg (gk - 1)
    case measure => have := HG.out; omega
    case rel => exact ⟨i + 1, by go_num, by omega, ⟨by have := HG.out; omega⟩, ⟨by rw [← HP.out, HS.out]; rfl⟩, HD1⟩
  ·have hi2 : i = l0.length := by omega
   subst hi2
   go_wp2_with fail
   go_ret
   have h := HP.out
   rw [List.drop_of_length_le (Nat.le_refl _)] at h
   rw [← h]
   exact ⟨rfl, HD.out⟩

/-! ### slices_ContainsFunc_int_int: function 42 (by hand) -/
/-- A length that may not be. -/
def badLen (x : Int) : Bool := decide (x < 0) || decide (x > 15)
set_option maxHeartbeats 8000000 in
set_option maxRecDepth 100000 in
theorem contains_func (F : Nat) (p : Int → Bool) (hE : ∀ (args : Array Value) (W : World), (callFunc F args).run Try.prog W = .ok (.enter F args) W) (hF : ∀ (x : Int) (W : World), Calls Try.prog F #[.int .i64 x] W fun e W' => e = .returned (.bool (p x)) ∧ Drawn0 W W') (A0 : Option Addr) (c0 : Nat) (l0 : List Int) (w : World)
  (hr0 : Kd.C (Kd.int .i64) w A0 l0.length l0) (hc0 : l0.length ≤ c0) :
  Calls Try.prog 42 #[.slice A0 l0.length c0, .func (.func F) #[] #[]] w fun e w' => e = .returned (.bool (l0.any p)) ∧ Drawn0 w w' := by
 have HC := Aside0.mk (index_func F p hE hF A0 c0 l0 w hr0 hc0)
 have HA := Aside0.mk (firstBad_any p l0 0)
 clear hE hF hr0
 go_enter Try.func42, Try.ntmps42
 go_wp2_with fail
 refine HC.out.mono ?_
 rintro e1 w1 ⟨rfl, hd⟩
 have HD := Aside0.mk hd
 clear hd
 generalize firstBad p l0 0 = q at HA ⊢
 go_wp2_with fail
 go_ret
 rw [← HA.out]
 exact ⟨rfl, HD.out⟩

/-! ### tree_above: function 51 -/
mutual
def tree_above.l0 : Nat → Int → List Int → Int → Int → Option (Int × Bool)
 | 0, _, _, _, _ => none
 | k + 1, x4, x10, x11, x12 => if x12 < x11 then (if 0 ≤ x12 then (if x12 < (x10.length : Int) then (if (rd x10 x12) < 0 then (tree_above.j1 k x4 (rd x10 x12) x10 x11 x12 true) else (tree_above.j1 k x4 (rd x10 x12) x10 x11 x12 (decide ((rd x10 x12) > 1048576)))) else (none)) else (none)) else (some (x4, true))
def tree_above.j1 : Nat → Int → Int → List Int → Int → Int → Bool → Option (Int × Bool)
 | 0, _, _, _, _, _, _ => none
 | k + 1, x4, x6, x10, x11, x12, x21 => if x21 = true then (some (0, false)) else (if x6 > 0 then (tree_above.l0 k (wrap64 (x4 + 1)) x10 x11 (wrap64 (x12 + 1))) else (tree_above.l0 k x4 x10 x11 (wrap64 (x12 + 1))))
end
def tree_above.f (k : Nat) (l0 : List Int) : Option (Int × Bool) := if (l0.length : Int) > 300 then (some (0, false)) else (tree_above.l0 k 0 l0 (l0.length : Int) 0)
set_option maxHeartbeats 8000000 in
set_option maxRecDepth 100000 in
theorem tree_above.calls (k : Nat) (A0 : Option Addr) (c0 : Nat) (l0 : List Int) (r1 : Int) (r2 : Bool) (w : World) (hr0 : Kd.C (Kd.int .i64) w A0 l0.length l0) (hc0 : l0.length ≤ c0) (h : tree_above.f k l0 = some (r1, r2)) :
  Calls Try.prog 51 #[.slice A0 l0.length c0] w fun e w' => e = .returned (.tuple #[.int .i64 r1, .bool r2]) ∧ Drawn0 w w' := by
 have HR0 := Aside0.mk hr0
 have HC0 := Aside0.mk hc0
 clear hr0 hc0
 have H : (if (l0.length : Int) > 300 then (some (0, false)) else (tree_above.l0 k 0 l0 (l0.length : Int) 0)) = some (r1, r2) := h
 clear h
 by_cases c2 : (l0.length : Int) > 300
 ·rw [if_pos c2] at H
  have c2b0 : decide (300 < (l0.length : Int)) = true := decide_eq_true c2
  have c2b1 : decide (300 < l0.length) = true := decide_eq_true (by omega)
  clear c2
  simp only [Option.some.injEq, Prod.mk.injEq] at H
  obtain ⟨rfl, rfl⟩ := H
  go_enter Try.func51, Try.ntmps51
  go_wp2
  go_ret2
  exact ⟨by first | rfl | (simp; done) | (simp [*]; done), by repeat (first | exact Drawn0.refl _ | apply Drawn0.step)⟩
 ·rw [if_neg c2] at H
  have c2b0 : decide (300 < (l0.length : Int)) = false := decide_eq_false c2
  have c2b1 : decide (300 < l0.length) = false := decide_eq_false (by omega)
  clear c2
  have H' := Aside0.mk H
  clear H
  go_enter Try.func51, Try.ntmps51
  go_wp2
  go_loopg [4, 12] k (fun kq v4 v12 w' => ∃ (x4_1 : Int) (x12_1 : Int), v4 = .int .i64 x4_1 ∧ v12 = .int .i64 x12_1 ∧ Aside0 (tree_above.l0 kq x4_1 l0 (l0.length : Int) x12_1 = some (r1, r2)) ∧ Aside0 (kq ≤ k) ∧ Drawn0 w w')
  case atStart => exact ⟨(0), (0), (by first | rfl | (simp; done) | (simp [*]; done)), (by first | rfl | (simp; done) | (simp [*]; done)), H', ⟨Nat.le_refl _⟩, by repeat (first | exact Drawn0.refl _ | apply Drawn0.step)⟩
  case round =>
   clear H'
   try clear c2
   try clear c2b0
   try clear c2b1
   try clear p2
   obtain ⟨x4_1, x12_1, rfl, rfl, HA, HK1, ⟨m1, rfl⟩⟩ := hrel
   cases gk with
   | zero => exact absurd HA.out (by simp [tree_above.l0])
   | succ k1 =>
    have H := HA.out
    clear HA
    simp only [tree_above.l0] at H
    by_cases c3 : x12_1 < (l0.length : Int)
    ·rw [if_pos c3] at H
     have c3b0 : decide (x12_1 < (l0.length : Int)) = true := decide_eq_true c3
     clear c3
     by_cases c4 : 0 ≤ x12_1
     ·rw [if_pos c4] at H
      have c4b0 : decide (0 ≤ x12_1) = true := decide_eq_true c4
      clear c4
      by_cases c5 : x12_1 < (l0.length : Int)
      ·rw [if_pos c5] at H
       have c5b0 : decide (x12_1 < (l0.length : Int)) = true := decide_eq_true c5
       clear c5
       have HC6 := Aside0.mk H
       clear H
       have p188 : 0 ≤ (x12_1 : Int) := of_decide_eq_true (by first | (with_reducible assumption) | assumption)
       have q188 : x12_1 < (l0.length : Int) := of_decide_eq_true (by first | (with_reducible assumption) | assumption)
       obtain ⟨ad188, e188, hx188_0⟩ := Kd.at_int HR0.out x12_1 p188 q188
       cases e188
       replace p188 := eq_true p188
       replace q188 := eq_true q188
       go_upto_region 7 with (fail)
       go_cut [21] (fun v21 wc => ∃ (kq : Nat) (x21_5 : Bool), v21 = .bool x21_5 ∧ Aside0 (tree_above.j1 kq x4_1 (rd l0 x12_1) l0 (l0.length : Int) x12_1 x21_5 = some (r1, r2)) ∧ Aside0 (kq ≤ k1) ∧ Drawn0 w wc)
       case first =>
        have H := HC6.out
        clear HC6
        by_cases c7 : (rd l0 x12_1) < 0
        ·rw [if_pos c7] at H
         have c7b0 : decide ((rd l0 x12_1) < 0) = true := decide_eq_true c7
         clear c7
         (first | rw [c7b0] | (simp only [i64_w, i32_w]; rw [c7b0]) | skip)
         have H' := Aside0.mk H
         clear H
         go_wp2
         go_meet
         case rel => exact ⟨_, (true), (by first | rfl | (simp; done) | (simp [*]; done)), H', ⟨by have := HK1.out; first | omega | exact Nat.le_refl _⟩, by repeat (first | exact Drawn0.refl _ | apply Drawn0.step)⟩
        ·rw [if_neg c7] at H
         have c7b0 : decide ((rd l0 x12_1) < 0) = false := decide_eq_false c7
         clear c7
         (first | rw [c7b0] | (simp only [i64_w, i32_w]; rw [c7b0]) | skip)
         have H' := Aside0.mk H
         clear H
         go_wp2
         go_meet
         case rel => exact ⟨_, (decide ((rd l0 x12_1) > 1048576)), (by first | rfl | (simp; done) | (simp [*]; done)), H', ⟨by have := HK1.out; first | omega | exact Nat.le_refl _⟩, by repeat (first | exact Drawn0.refl _ | apply Drawn0.step)⟩
       case rest =>
        clear HC6
        try clear p1
        try clear q1
        try clear hx1
        try clear c2
        try clear c2b0
        try clear c2b1
        try clear p2
        try clear c3
        try clear c3b0
        try clear c4
        try clear c4b0
        try clear c5
        try clear c5b0
        try clear c7
        try clear c7b0
        try clear hx188_0
        try clear p188
        try clear p2
        try clear q188
        obtain ⟨kq, x21_5, rfl, HA, HJ5, ⟨mc5, rfl⟩⟩ := hcut
        cases kq with
        | zero => exact absurd HA.out (by simp [tree_above.j1])
        | succ kj5 =>
         have H := HA.out
         clear HA
         simp only [tree_above.j1] at H
         by_cases c8 : x21_5 = true
         ·subst c8
          have H1 : (some (0, false)) = some (r1, r2) := by rw [if_pos rfl] at H; exact H
          clear H
          have H := H1
          clear H1
          simp only [Option.some.injEq, Prod.mk.injEq] at H
          obtain ⟨rfl, rfl⟩ := H
          go_wp2
          go_ret2
          exact ⟨by first | rfl | (simp; done) | (simp [*]; done), by repeat (first | exact Drawn0.refl _ | apply Drawn0.step)⟩
         ·replace c8 := Bool.eq_false_iff.mpr c8
          subst c8
          have H1 : (if (rd l0 x12_1) > 0 then (tree_above.l0 kj5 (wrap64 (x4_1 + 1)) l0 (l0.length : Int) (wrap64 (x12_1 + 1))) else (tree_above.l0 kj5 x4_1 l0 (l0.length : Int) (wrap64 (x12_1 + 1)))) = some (r1, r2) := by rw [if_neg (show ¬ (false = true) by decide)] at H; exact H
          clear H
          have H := H1
          clear H1
          by_cases c9 : (rd l0 x12_1) > 0
          ·rw [if_pos c9] at H
           have c9b0 : decide (0 < (rd l0 x12_1)) = true := decide_eq_true c9
           clear c9
           have H' := Aside0.mk H
           clear H
           go_wp2
           go_roundg kj5
           case measure => have := HK1.out; have := HJ5.out; omega
           case rel => exact ⟨(wrap64 (x4_1 + 1)), (wrap64 (x12_1 + 1)), (by first | rfl | (simp; done) | (simp [*]; done)), (by first | rfl | (simp; done) | (simp [*]; done)), H', ⟨by have := HK1.out; have := HJ5.out; omega⟩, by repeat (first | exact Drawn0.refl _ | apply Drawn0.step)⟩
          ·rw [if_neg c9] at H
           have c9b0 : decide (0 < (rd l0 x12_1)) = false := decide_eq_false c9
           clear c9
           have H' := Aside0.mk H
           clear H
           go_wp2
           go_roundg kj5
           case measure => have := HK1.out; have := HJ5.out; omega
           case rel => exact ⟨(x4_1), (wrap64 (x12_1 + 1)), (by first | rfl | (simp; done) | (simp [*]; done)), (by first | rfl | (simp; done) | (simp [*]; done)), H', ⟨by have := HK1.out; have := HJ5.out; omega⟩, by repeat (first | exact Drawn0.refl _ | apply Drawn0.step)⟩
      ·rw [if_neg c5] at H
       exact absurd H (by simp)
     ·rw [if_neg c4] at H
      exact absurd H (by simp)
    ·rw [if_neg c3] at H
     have c3b0 : decide (x12_1 < (l0.length : Int)) = false := decide_eq_false c3
     clear c3
     simp only [Option.some.injEq, Prod.mk.injEq] at H
     obtain ⟨rfl, rfl⟩ := H
     go_wp2
     go_ret2
     exact ⟨by first | rfl | (simp; done) | (simp [*]; done), by repeat (first | exact Drawn0.refl _ | apply Drawn0.step)⟩

/-! ### tree_Cost: function 30 (by hand) -/
/-- May weights be such? How many are above 0? -/
def weighs (w : List Int) : Bool := decide (w.length ≤ 300) && w.all (fun x => decide (0 ≤ x) && decide (x ≤ 1048576))
def pos (w : List Int) : Nat := (w.filter (fun x => decide (0 < x))).length
theorem weighs_iff (w : List Int) : weighs w = true ↔ w.length ≤ 300 ∧ ∀ x ∈ w, 0 ≤ x ∧ x ≤ 1048576 := by
 unfold weighs
 simp [List.all_eq_true]
theorem pos_le (w : List Int) : pos w ≤ w.length := List.length_filter_le _ _
theorem above_loop (l : List Int) (hl : l.length ≤ 300) : ∀ (d i k : Nat), i + d = l.length → 2 * d < k → tree_above.l0 k (pos (l.take i) : Int) l (l.length : Int) (i : Int) = some (if (l.drop i).all (fun x => decide (0 ≤ x) && decide (x ≤ 1048576)) then ((pos l : Int), true) else (0, false)) := by
 intro d
 induction d with
 | zero =>
  intro i k hi hk
  obtain ⟨k, rfl⟩ : ∃ m, k = m + 1 := ⟨k - 1, by omega⟩
  simp only [tree_above.l0]
  rw [if_neg (by omega), List.drop_of_length_le (by omega), List.take_of_length_le (by omega)]
  rfl
 | succ d ih =>
  intro i k hi hk
  obtain ⟨k, rfl⟩ : ∃ m, k = m + 2 := ⟨k - 2, by omega⟩
  have hlt : i < l.length := by omega
  have hp : pos (l.take i) ≤ 300 := Nat.le_trans (pos_le _) (by rw [List.length_take]; omega)
  have hstep : pos (l.take (i + 1)) = pos (l.take i) + if 0 < l[i] then 1 else 0 := by
   unfold pos
   rw [List.take_succ_eq_append_getElem hlt, List.filter_append, List.length_append]
   by_cases h : 0 < l[i] <;> simp [List.filter_cons, h]
  have e : rd l (i : Int) = l[i] := by unfold rd; rw [Int.toNat_natCast, List.getD_eq_getElem?_getD, List.getElem?_eq_getElem hlt]; rfl
  simp only [tree_above.l0]
  rw [if_pos (by omega), if_pos (by omega), if_pos (by omega), e, List.drop_eq_getElem_cons hlt, List.all_cons]
  by_cases h0 : l[i] < 0
  ·rw [if_pos h0, decide_eq_false (by omega)]
   simp only [tree_above.j1]
   rw [if_pos trivial]
   rfl
  ·rw [if_neg h0]
   by_cases h1 : l[i] > 1048576
   ·rw [decide_eq_true h1, decide_eq_true (by omega), decide_eq_false (by omega)]
    simp only [tree_above.j1]
    rw [if_pos trivial]
    rfl
   ·rw [decide_eq_false h1, decide_eq_true (by omega), decide_eq_true (by omega), Bool.and_true, Bool.true_and]
    simp only [tree_above.j1]
    rw [if_neg (by decide), show wrap64 ((i : Int) + 1) = ((i + 1 : Nat) : Int) from by unfold wrap64; omega, show wrap64 ((pos (l.take i) : Int) + 1) = ((pos (l.take i) + 1 : Nat) : Int) from by unfold wrap64; omega]
    have := ih (i + 1) k (by omega) (by omega)
    rw [hstep] at this
    by_cases h2 : l[i] > 0
    ·rw [if_pos h2]
     rw [if_pos (by omega)] at this
     exact this
    ·rw [if_neg h2]
     rw [if_neg (by omega)] at this
     exact this
theorem above_is (l : List Int) : tree_above.f 700 l = some (if weighs l then ((pos l : Int), true) else (0, false)) := by
 unfold tree_above.f weighs
 by_cases h : l.length ≤ 300
 ·rw [if_neg (by omega), decide_eq_true h]
  have := above_loop l h l.length 0 700 (by omega) (by omega)
  rw [show ((pos (l.take 0) : Nat) : Int) = 0 from rfl, List.drop_zero] at this
  exact this
 ·rw [if_pos (by omega), decide_eq_false h]; rfl
/-! ### slices_Clone_int_int: function 89 (by hand) -/
/-- What came in, in memory of its own. -/
def slices_Clone_int_int.f (l0 : List Int) : Option (List Int) := if l0.length < 17592186044416 then some l0 else none
set_option maxHeartbeats 8000000 in
set_option maxRecDepth 100000 in
theorem slices_Clone_int_int.calls (A0 : Option Addr) (c0 : Nat) (l0 : List Int) (r : List Int) (w : World) (hr0 : Kd.C (Kd.int .i64) w A0 l0.length l0) (hc0 : l0.length ≤ c0) (h : slices_Clone_int_int.f l0 = some r) :
  Calls Try.prog 89 #[.slice A0 l0.length c0] w fun e w' => ∃ v0_ : Value, e = .returned (v0_) ∧ Kd.R (Kd.int .i64) 3 w' w.heap.size (fun _ => True) v0_ r ∧ Below w.heap.size w w' := by
 unfold slices_Clone_int_int.f at h
 by_cases hlt : l0.length < 17592186044416
 ·rw [if_pos hlt] at h
  obtain rfl := Option.some.inj h
  have HR := Aside0.mk hr0
  have HL := Aside0.mk hlt
  clear hr0 hlt h
  cases A0 with
  | none =>
   have h0 : l0 = [] := by
    rcases Nat.eq_zero_or_pos l0.length with h0 | h0
    ·exact List.length_eq_zero_iff.1 h0
    ·obtain ⟨ad, e, _⟩ := HR.out.2.2 h0
     cases e
   subst h0
   have hq : ∀ W : World, (binOp .eql 32 (.slice none 0 c0) (.slice none 0 0)).run Try.prog W = .ok (.bool true) W := fun W => Lib.run_eql_slice_nil W 32 3 none _ _ _ _ Try.underlying32
   go_enter Try.func89, Try.ntmps89
   go_wp2_with fail
   go_ret
   exact ⟨_, rfl, Kd.R_nil _ _ _ _ _, Below.refl _ _⟩
  | some ad =>
   have hq : ∀ W : World, (binOp .eql 32 (.slice (some ad) l0.length c0) (.slice none 0 0)).run Try.prog W = .ok (.bool false) W := fun W => Lib.run_eql_slice_nil W 32 3 (some ad) _ _ _ _ Try.underlying32
   go_enter Try.func89, Try.ntmps89
   go_wp2_with (first
    | ((with_reducible refine gate_dst (N := 5) rfl ?_); refine Kd.R_lit (Kd.int .i64) (w0 := w) w.heap.size 3 rfl (N := 5) rfl (xs := []) (inner := []) (ok := fun _ => True) (okp := fun _ => False) ?hr ?hrep (fun _ hk => hk.elim) trivial (Below.refl _ _) (Nat.le_refl _) (by simp) ?_; (case hr => first | (go_simp; done) | (go_simp; rfl)); (case hrep => exact ⟨rfl, fun j p hj => by simp at hj⟩); intro v1 w1 ho hb hg hat; (have HO := Aside0.mk ho); (have HB := Aside0.mk hb); (have HR1 := Aside0.mk (Kd.C_below HR.out hb)); clear ho hb hg hat HR)
    | ((with_reducible refine gate_builtin (b := .append) (xs := #[.tmp 5, .tmp 6]) rfl ?_); at_builtin; refine Kd.R_append_row (Value.int .i64) 0 (w0 := w) w.heap.size rfl (.tmp 5) (.tmp 6) 32 3 (.int .i64 0) 8 rfl Try.underlying32 info3 rfl (by decide) v1 [] l0 (some ad) l0.length c0 (fun _ => True) rfl rfl (fun _ _ => trivial) HO.out HR1.out HB.out HB.out.size (by have := HL.out; simp; omega) ?_; intro v2 w2 ho2 hb2 hg2 hat2; (have HO2 := Aside0.mk ho2); (have HB2 := Aside0.mk hb2); clear ho2 hb2 hg2 hat2))
   go_ret
   exact ⟨_, rfl, HO2.out, HB2.out⟩
 ·rw [if_neg hlt] at h
  cases h

/-! ### slices_Grow_int_int: function 92 (by hand) -/
set_option maxHeartbeats 8000000 in
set_option maxRecDepth 100000 in
/-- Room for so many, out of nothing. -/
theorem grow_nil (n : Nat) (w : World) (hn : n ≤ 1000000) :
  Calls Try.prog 92 #[.slice none 0 0, .int .i64 n] w fun e w' => ∃ v, e = .returned v ∧ Kd.R (Kd.int .i64) 3 w' w.heap.size (fun _ => True) v [] ∧ Below w.heap.size w w' := by
 by_cases h0 : n = 0
 ·subst h0
  go_enter Try.func92, Try.ntmps92
  go_wp2_with fail
  go_ret
  exact ⟨_, rfl, Kd.R_nil _ _ _ _ _, Below.refl _ _⟩
 ·have h1 : decide ((n : Int) < 0) = false := decide_eq_false (by omega)
  have h2 : decide ((0 : Int) < (n : Int)) = true := decide_eq_true (by omega)
  have HN := Aside0.mk (Kd.R_nil (Kd.int .i64) 3 w w.heap.size (fun _ => True))
  obtain ⟨ti, hti, hts⟩ : ∃ i, Try.prog.info? 3 = some i ∧ i.size = 1 := by
   have h := info3
   obtain ⟨i, hi, hz⟩ := Option.map_eq_some_iff.1 h
   simp only [Prod.mk.injEq] at hz
   exact ⟨i, hi, hz.2.1⟩
  have HI := Aside0.mk (And.intro hti hts)
  clear hti hts
  go_enter Try.func92, Try.ntmps92
  go_wp2_with ((with_reducible refine gate_builtin (b := .append) (xs := #[.tmp 20, .tmp 21]) rfl ?_); at_builtin; refine Kd.R_append_zeros (Kd.int .i64) (w0 := w) w.heap.size rfl (.tmp 20) (.tmp 21) 32 3 3 (.int .i64 0) 8 rfl Try.underlying32 Try.underlying3 info3 rfl (by decide) (by decide) (.slice none 0 0) [] (0 : Int) (n : Int) (fun _ => True) rfl rfl rfl (fun _ _ => trivial) HN.out (by omega) (Below.refl _ _) (Nat.le_refl _) (by simp; omega) ?_; intro v1 w1 ho hb hg hat; (obtain ⟨A1, c1, e1⟩ := Kd.R_slice ho); (subst e1); (have hcut := (print_take_int (k := .i64) 32 3 Try.underlying32 HI.out.1 HI.out.2 A1 c1 ([] ++ List.replicate ((n : Int)).toNat 0) 0 (by omega) (by omega) (Kd.R_reads' ho).2.1).1 w1); (have HO := Aside0.mk ho); (have HB := Aside0.mk hb); clear ho hb hg hat)
  go_ret
  exact ⟨_, rfl, Kd.R_take (m := 0) HO.out (Nat.zero_le _), HB.out⟩

/-! ### slices_Concat_int_int: function 66 (by hand) -/
set_option maxHeartbeats 8000000 in
set_option maxRecDepth 100000 in
/-- Two rows one behind the other, in memory of their own. -/
theorem concat_two (gc : Nat) (A1 A2 : Option Addr) (c1 c2 : Nat) (s1 s2 : List Int) (w : World) (hg1 : w.cell? ⟨gc, 0, none⟩ = some (.slice A1 s1.length c1)) (hg2 : w.cell? ⟨gc, 1, none⟩ = some (.slice A2 s2.length c2))
  (hr1 : Kd.C (Kd.int .i64) w A1 s1.length s1) (hr2 : Kd.C (Kd.int .i64) w A2 s2.length s2) (hc1 : s1.length ≤ c1) (hc2 : s2.length ≤ c2) (hl : s1.length + s2.length ≤ 1000000) :
  Calls Try.prog 66 #[.slice (some ⟨gc, 0, none⟩) 2 2] w fun e w' => ∃ v, e = .returned v ∧ Kd.R (Kd.int .i64) 3 w' w.heap.size (fun _ => True) v (s1 ++ s2) ∧ Below w.heap.size w w' := by
 have H1 := Aside0.mk (And.intro hr1 hc1)
 have H2 := Aside0.mk (And.intro hr2 hc2)
 have HG := Aside0.mk (And.intro hg1 hg2)
 clear hr1 hr2 hc1 hc2
 obtain ⟨L1, hL1⟩ : ∃ L, L = s1.length := ⟨_, rfl⟩
 obtain ⟨L2, hL2⟩ : ∃ L, L = s2.length := ⟨_, rfl⟩
 have HL := Aside0.mk (And.intro hL1 hL2)
 rw [← hL1] at hg1 hl
 rw [← hL2] at hg2 hl
 clear hL1 hL2
 have hg3 : w.cell? ((⟨gc, 0, none⟩ : Addr).add 0) = some (.slice A1 L1 c1) := hg1
 go_enter Try.func66, Try.ntmps66
 go_wp2_with fail
 go_loop [3, 11] (fun v3 v11 => ∃ i : Nat, i ≤ 2 ∧ v11 = .int .i64 i ∧ v3 = .int .i64 ((if i = 0 then 0 else if i = 1 then L1 else L1 + L2 : Nat) : Int)) (fun _ v11 => 2 - (intOf v11).toNat)
 case atStart => exact ⟨0, by omega, rfl, rfl⟩
 case round =>
  obtain ⟨i, hi, rfl, rfl⟩ := hrel
  have hi3 : i = 0 ∨ i = 1 ∨ i = 2 := by omega
  rcases hi3 with rfl | rfl | rfl
  ·simp only [if_true]
   go_wp2_with fail
   exact ⟨⟨1, by omega, rfl, rfl⟩, by decide⟩
  ·simp only [if_true, Nat.one_ne_zero, if_false]
   go_wp2_with fail
   exact ⟨⟨2, by omega, rfl, by go_num⟩, by decide⟩
  ·simp only [show ¬ (2 : Nat) = 0 from by decide, show ¬ (2 : Nat) = 1 from by decide, if_false]
   obtain ⟨n, hn⟩ : ∃ n, n = L1 + L2 := ⟨_, rfl⟩
   rw [← hn]
   have hnl : n ≤ 1000000 := by omega
   have hn2 := Aside0.mk hn
   clear hn
   go_wp2_with fail
   refine (grow_nil n w hnl).mono ?_
   rintro e1 w1 ⟨v0, rfl, ho, hb⟩
   have HO := Aside0.mk ho
   have HB := Aside0.mk hb
   clear ho hb hg1 hg2 hg3
   have hn2 := hn2.out
   go_wp2_with fail
   go_loopg [6, 27] 2 (fun kq v6 v27 w' => ∃ i : Nat, i ≤ 2 ∧ v27 = .int .i64 i ∧ Aside0 (kq + i = 2) ∧ Aside0 (Kd.R (Kd.int .i64) 3 w' w.heap.size (fun _ => True) v6 (if i = 0 then [] else if i = 1 then s1 else s1 ++ s2)) ∧ Aside0 (Below w.heap.size w w'))
   case atStart => exact ⟨0, by omega, rfl, ⟨rfl⟩, HO, HB⟩
   case round =>
    clear HO HB
    obtain ⟨i, hi, rfl, HG2, HO, HB⟩ := hrel
    obtain ⟨A6, c6, e6⟩ := Kd.R_slice HO.out
    subst e6
    have hg1 := pw_cell_below HB.out HG.out.1
    have hg2 := pw_cell_below HB.out HG.out.2
    rw [← HL.out.1] at hg1
    rw [← HL.out.2] at hg2
    have hg3 : wr.cell? ((⟨gc, 0, none⟩ : Addr).add 0) = some (.slice A1 L1 c1) := hg1
    have hi3 : i = 0 ∨ i = 1 ∨ i = 2 := by omega
    rcases hi3 with rfl | rfl | rfl
    ·simp only [if_true] at HO ⊢
     go_wp2_with ((with_reducible refine gate_builtin (b := .append) (xs := #[.tmp 31, .tmp 32]) rfl ?_); at_builtin; refine Kd.R_append_row (Value.int .i64) 0 (w0 := w) w.heap.size rfl (.tmp 31) (.tmp 32) 32 3 (.int .i64 0) 8 rfl Try.underlying32 info3 rfl (by decide) (.slice A6 ([] : List Int).length c6) [] s1 A1 L1 c1 (fun _ => True) rfl rfl (fun _ _ => trivial) HO.out (HL.out.1 ▸ Kd.C_below H1.out.1 HB.out) HB.out HB.out.size (by have := HL.out; simp; omega) ?_; intro v2 w2 ho2 hb2 hg_ hat2; (have HO2 := Aside0.mk ho2); (have HB2 := Aside0.mk hb2); clear ho2 hb2 hg_ hat2)
     go_roundg (gk - 1)
     case measure => have := HG2.out; omega
     case rel => exact ⟨1, by omega, rfl, ⟨by have := HG2.out; omega⟩, ⟨by have h := HO2.out; rw [List.nil_append] at h; exact h⟩, HB2⟩
    ·simp only [if_true, Nat.one_ne_zero, if_false] at HO ⊢
     go_wp2_with ((with_reducible refine gate_builtin (b := .append) (xs := #[.tmp 31, .tmp 32]) rfl ?_); at_builtin; refine Kd.R_append_row (Value.int .i64) 0 (w0 := w) w.heap.size rfl (.tmp 31) (.tmp 32) 32 3 (.int .i64 0) 8 rfl Try.underlying32 info3 rfl (by decide) (.slice A6 s1.length c6) s1 s2 A2 L2 c2 (fun _ => True) rfl rfl (fun _ _ => trivial) HO.out (HL.out.2 ▸ Kd.C_below H2.out.1 HB.out) HB.out HB.out.size (by have := HL.out; omega) ?_; intro v2 w2 ho2 hb2 hg_ hat2; (have HO2 := Aside0.mk ho2); (have HB2 := Aside0.mk hb2); clear ho2 hb2 hg_ hat2)
     go_roundg (gk - 1)
     case measure => have := HG2.out; omega
     case rel => exact ⟨2, by omega, rfl, ⟨by have := HG2.out; omega⟩, ⟨HO2.out⟩, HB2⟩
    ·simp only [show ¬ (2 : Nat) = 0 from by decide, show ¬ (2 : Nat) = 1 from by decide, if_false] at HO ⊢
     go_wp2_with fail
     go_ret
     exact ⟨_, rfl, HO.out, HB.out⟩

/-! ### tree_node: function 113 (by hand) -/
/-- The cells of a node: what it weighs, its row of symbols. -/
def nodeCells (x : Int × Value) : List Value := [.int .i64 x.1, x.2]
def nodeRows (l : List (Int × Value)) : List (List Value) := l.map nodeCells
theorem nodeRows_length (l : List (Int × Value)) : (nodeRows l).length = l.length := by simp [nodeRows]
theorem nodeRows_at (l : List (Int × Value)) (i : Nat) (h : i < l.length) : (nodeRows l).getD i [] = nodeCells l[i] := by simp [nodeRows, h]
theorem nodeRows_erase (l : List (Int × Value)) (k : Nat) : (nodeRows l).eraseIdx k = nodeRows (l.eraseIdx k) := by
 rw [List.eraseIdx_eq_take_drop_succ, List.eraseIdx_eq_take_drop_succ, nodeRows, nodeRows, List.map_append, List.map_take, List.map_drop]
/-- A node list in memory of its own. -/
def Nodes (w : World) (base : Nat) (v : Value) (l : List (Int × Value)) : Prop := (Kd.raw 2).R 133 w base (fun _ => True) v (nodeRows l)
/-- Its block is known whole, its cells may be written. -/
theorem nodes_block {w : World} {base g m c : Nat} {rows : List (List Value)} (h : (Kd.raw 2).R 133 w base (fun _ => True) (.slice (some ⟨g, 0, none⟩) m c) rows) :
  ∃ cur, w.heap[g]? = some (.cells cur 133 (0, 0)) ∧ cur.size = c * 2 ∧ c ≤ maxLen ∧ base ≤ g := by
 obtain ⟨_, inner, hown, _⟩ := h
 rcases hown.2 with ⟨hv, _⟩ | ⟨g', cap', cur, hv, hb, hh, _, hcm, hcs, _⟩
 ·cases hv
 injection hv with ha _ hc
 injection ha with ha
 injection ha with hg
 subst hg; subst hc
 exact ⟨cur, hh, hcs, hcm, hb⟩
/-- What is written behind its end changes nothing of it. -/
theorem nodes_behind {w : World} {base g m c o : Nat} {rows : List (List Value)} (h : (Kd.raw 2).R 133 w base (fun _ => True) (.slice (some ⟨g, 0, none⟩) m c) rows) (seg : List Value) (ho : m * 2 ≤ o) (hs : o + seg.length ≤ c * 2) :
  (Kd.raw 2).R 133 (w.setCells g o seg) base (fun _ => True) (.slice (some ⟨g, 0, none⟩) m c) rows := by
 obtain ⟨h0, inner, hown, hr⟩ := h
 refine ⟨h0, inner, ⟨hown.1, ?_⟩, hr⟩
 rcases hown.2 with ⟨hv, _⟩ | ⟨g', cap', cur, hv, hb, hh, hmc, hcm, hcs, htake⟩
 ·cases hv
 injection hv with ha hn hc
 injection ha with ha
 injection ha with hg
 subst hg; subst hc
 have hz : (Kd.raw 2).sz = 2 := rfl
 obtain ⟨cur', h3, h4, h5⟩ := setCells_row seg o w cur hh (by rw [hcs, hz]; exact hs)
 refine .inr ⟨g, c, cur', by rw [hn], hb, h3, hmc, hcm, by rw [h4, hcs], ?_⟩
 have hl : (cur.toList.take o).length = o := by rw [List.length_take, Array.length_toList, hcs, hz]; omega
 rw [h5, List.append_assoc, ← htake, List.take_append_of_le_length (by rw [hl, ← hn, hz]; omega), List.take_take, Nat.min_eq_left (by rw [← hn, hz]; omega)]
theorem clear_node (w : World) (ty : TypeId) (b o c : Nat) (hc : ∀ j, j < 2 → (w.cell? ⟨b, o + j, none⟩).isSome = true) (hf : ∀ j, j < 2 → w.frozen? ⟨b, o + j, none⟩ = false) :
  (Builtin.clear_ #[131] ty #[.slice (some ⟨b, o, none⟩) 1 c]).run Try.prog w = .ok (.tuple #[]) (w.setCells b o [.int .i64 0, .slice none 0 0]) := by
 have ht := Try.underlying131
 have hv : ∀ w, (zeroValue 133).run Try.prog w = .ok (.agg #[.int .i64 0, .slice none 0 0]) w := fun w => by kernel_rfl
 have hst := run_storeCells_cells (P := Try.prog) b o [.int .i64 0, .slice none 0 0] 0 w (by simpa using hc) (by simpa using hf) (by intro v hv'; simp at hv'; rcases hv' with rfl | rfl <;> rfl)
 simp only [Nat.add_zero] at hst
 have hzc : (Builtin.zeroCells (Value.agg #[.int .i64 0, .slice none 0 0]).cells 1).toList = [.int .i64 0, .slice none 0 0] := by simp [Builtin.zeroCells, Value.cells]; rfl
 simp [Builtin.clear_, run_underlying ht, hv, hzc, hst]
set_option maxHeartbeats 8000000 in
set_option maxRecDepth 100000 in
theorem delete_node (g c at' : Nat) (l : List (Int × Value)) (w0 w : World) (hO : Nodes w w0.heap.size (.slice (some ⟨g, 0, none⟩) l.length c) l) (hat : at' < l.length) (hB : Below w0.heap.size w0 w) (hl : l.length ≤ 1000000) :
  Calls Try.prog 113 #[.slice (some ⟨g, 0, none⟩) l.length c, .int .i64 at', .int .i64 ((at' : Int) + 1)] w fun e w' => e = .returned (.slice (some ⟨g, 0, none⟩) (l.length - 1) c) ∧
   Nodes w' w0.heap.size (.slice (some ⟨g, 0, none⟩) (l.length - 1) c) (l.eraseIdx at') ∧ Below w0.heap.size w0 w' ∧ w.grownBy w' (some g) := by
 have HB := Aside0.mk hB
 obtain ⟨hn, hc, _⟩ := Kd.R_reads' hO
 have hcl : l.length ≤ c := by omega
 obtain ⟨L, hL⟩ : ∃ L, L = l.length := ⟨_, rfl⟩
 have HL := Aside0.mk hL
 rw [← hL] at hat hcl hl hO ⊢
 have HO := Aside0.mk hO
 have hmx : c ≤ 9223372036854775807 := by
  obtain ⟨_, _, _, h, _⟩ := nodes_block hO
  exact h
 clear hO hB hn hc hL
 have hne : ((at' : Int) == (at' : Int) + 1) = false := by rw [beq_eq_false_iff_ne]; omega
 have hic : at' ≤ c := by omega
 have hjc : at' + 1 ≤ c := by omega
 have hi2 : (0 : Int) ≤ (at' : Int) + 1 := by omega
 have hi0 : (0 : Int) ≤ (at' : Int) := by omega
 have hi1 : (at' : Int) + 1 ≤ (L : Int) := by omega
 go_enter Try.func113, Try.ntmps113
 go_wp2_with fail
 have hA : (if c = at' + 1 then some ({ block := g, off := 0 } : Addr) else some { block := g, off := (at' + 1) * 2 }) = if c = at' + 1 then some (⟨g, 0, none⟩ : Addr) else (some (⟨g, 0, none⟩ : Addr)).map (·.add ((at' + 1) * (Kd.raw 2).sz)) := by
  have hz : (Kd.raw 2).sz = 2 := rfl
  simp [hz, Addr.add]
 have HA := Aside0.mk hA
 clear hA
 have hinfo : (Try.prog.info? 133).map (·.size) = some (Kd.raw 2).sz := by kernel_rfl
 have HB1 := HB.out.drew
 have hO1 := Kd.R_drew HO.out
 go_region_law (refine Kd.R_delete_step (Kd.raw 2) (w0 := w0) w0.heap.size rfl (.tmp 22) (.tmp 25) 131 133 rfl Try.underlying131 hinfo rfl rfl HA.out rfl hO1 hat HB1 HB1.size ?_; intro w1 hO1 hB1 hg1)
 have HO1 := Aside0.mk hO1
 have HB2 := Aside0.mk hB1
 have HG := Aside0.mk hg1
 obtain ⟨cur1, hh1, hs1, _, _⟩ := nodes_block hO1
 have hcl : ∀ ty, (Builtin.clear_ #[131] ty #[.slice (some ⟨g, (L - 1) * 2, none⟩) (L - (L - 1)) (c - (L - 1))]).run Try.prog w1 = .ok (.tuple #[]) (w1.setCells g ((L - 1) * 2) [.int .i64 0, .slice none 0 0]) := fun ty => by
  rw [show L - (L - 1) = 1 by omega]
  exact clear_node w1 ty g ((L - 1) * 2) (c - (L - 1)) (fun j hj => by rw [cell_of_row w1 g _ cur1 133 (0, 0) hh1]; simp; omega) (fun j _ => blk_frozen hh1 _)
 have hc1 : ¬ (c = L - 1) := by omega
 have hc2 : L - 1 ≤ L := by omega
 have hc3 : L ≤ c := by omega
 have hc4 : (0 : Int) ≤ ((L - 1 : Nat) : Int) := by omega
 have hc5 : ((L - 1 : Nat) : Int) ≤ (L : Int) := by omega
 have HN := Aside0.mk (nodes_behind hO1 [.int .i64 0, .slice none 0 0] (Nat.le_refl _) (by simp; omega))
 obtain ⟨s1, s2, s3, s4⟩ := setCells_same g [.int .i64 0, .slice none 0 0] ((L - 1) * 2) w1
 have HS := Aside0.mk (show w1.grownBy (w1.setCells g ((L - 1) * 2) [.int .i64 0, .slice none 0 0]) (some g) from ⟨s1, s2, s3, by rw [s4]; exact Nat.le_refl _, fun k' _ hk' => setCells_far _ _ k' (fun he => hk' (by rw [he]))⟩)
 have HGG := Aside0.mk (show w.grownBy w.drew (some g) from ⟨rfl, rfl, rfl, Nat.le_refl _, fun _ _ _ => rfl⟩)
 clear hO1 hB1 hg1 hh1 hs1 s1 s2 s3 s4
 have HZ := Aside0.mk ‹w0.heap.size ≤ g›
 go_wp2_with fail
 all_goals
  go_ret
  refine ⟨rfl, ?_, ?_, ?_⟩
  ·rw [Nodes, ← nodeRows_erase]
   first
   | exact HN.out
   | (have hh := HN.out; rw [show c = at' + 1 by assumption] at hh; exact hh)
  ·exact HB2.out.grown HS.out HB2.out.size (fun k hk => by injection hk with hk; subst hk; exact HZ.out)
  ·exact (HGG.out.trans HG.out).trans HS.out

/-! ### tree_least: function 106 (by hand) -/
/-- The place of the first one of the least ones, of the first k. -/
def leastTo (ws : List Int) (k : Nat) : Nat := (List.range k).foldl (fun at' i => if ws.getD i 0 < ws.getD at' 0 then i else at') 0
def leastAt (ws : List Int) : Nat := leastTo ws ws.length
theorem leastTo_succ (ws : List Int) (k : Nat) : leastTo ws (k + 1) = if ws.getD k 0 < ws.getD (leastTo ws k) 0 then k else leastTo ws k := by
 simp [leastTo, List.range_succ]
theorem leastTo_lt (ws : List Int) (k : Nat) (h : k ≤ ws.length) (h0 : 0 < ws.length) : leastTo ws k < ws.length := by
 induction k with
 | zero => simpa [leastTo] using h0
 | succ n ih =>
  rw [leastTo_succ]
  split
  ·omega
  ·exact ih (by omega)
theorem node_at {w : World} {g : Nat} {l : List (Int × Value)} (h : (Kd.raw 2).C w (some ⟨g, 0, none⟩) (nodeRows l).length (nodeRows l)) {i : Nat} {x : Int × Value} (hx : l[i]? = some x) :
  w.cell? ⟨g, i * 2, none⟩ = some (.int .i64 x.1) ∧ w.cell? ⟨g, i * 2 + 1, none⟩ = some x.2 := by
 have hi : i < l.length := (List.getElem?_eq_some_iff.1 hx).1
 obtain ⟨ad, c, e, hc, hr, hcell⟩ := ReadsRow.get_ h [] (i : Int) (by omega) (by rw [nodeRows_length]; omega)
 injection e with e
 subst e
 rw [Int.toNat_natCast, nodeRows_at l i hi] at hr
 rw [Int.toNat_natCast] at hcell
 have e2 : l[i] = x := by rw [List.getElem?_eq_getElem hi] at hx; injection hx
 rw [e2] at hr
 have e3 : c = nodeCells x := hr.1
 subst e3
 have h0 := hcell 0 _ rfl
 have h1 := hcell 1 _ rfl
 rw [show (Kd.raw 2).sz = 2 from rfl, add_plain] at h0 h1
 exact ⟨h0, h1⟩
set_option maxHeartbeats 8000000 in
set_option maxRecDepth 100000 in
theorem tree_least (g c : Nat) (l : List (Int × Value)) (w0 w : World) (hO : Nodes w w0.heap.size (.slice (some ⟨g, 0, none⟩) l.length c) l) (h0 : 0 < l.length) (hB : Below w0.heap.size w0 w) (hl : l.length ≤ 1000000) (hV : ∀ x ∈ l, ∃ A n c, x.2 = .slice A n c) :
  Calls Try.prog 106 #[.slice (some ⟨g, 0, none⟩) l.length c] w fun e w' => ∃ x, l[leastAt (l.map (·.1))]? = some x ∧ e = .returned (.tuple #[.agg #[.int .i64 x.1, x.2], .slice (some ⟨g, 0, none⟩) (l.length - 1) c]) ∧
   Nodes w' w0.heap.size (.slice (some ⟨g, 0, none⟩) (l.length - 1) c) (l.eraseIdx (leastAt (l.map (·.1)))) ∧ Below w0.heap.size w0 w' ∧ w.grownBy w' (some g) := by
 have HV := Aside0.mk hV
 clear hV
 have HO := Aside0.mk hO
 have HB := Aside0.mk hB
 obtain ⟨hLL, hLc, hC⟩ := Kd.R_reads' hO
 have HC := Aside0.mk hC
 obtain ⟨L, hL⟩ : ∃ L, L = l.length := ⟨_, rfl⟩
 rw [← hL] at hl h0 ⊢
 have HL := Aside0.mk hL
 obtain ⟨ws, hws⟩ : ∃ ws, ws = l.map (·.1) := ⟨_, rfl⟩
 rw [← hws]
 have HW := Aside0.mk hws
 clear hO hB hC hLc hL hws hLL
 go_enter Try.func106, Try.ntmps106
 go_wp2_with fail
 obtain ⟨wA, hwA⟩ : ∃ wA, wA = w.alloc (Obj.cells #[Value.int IntKind.i64 0, Value.slice none 0 0] 133) := ⟨_, rfl⟩
 have hAc : wA.cell? ⟨w.heap.size, 0, none⟩ = some (.int .i64 0) := by rw [hwA]; simp
 have HAb := Aside0.mk (show Below w.heap.size w wA from by rw [hwA]; exact (Below.refl _ _).alloc (Nat.le_refl _) _)
 have HAs := Aside0.mk (show w.heap.size + 1 = wA.heap.size from by rw [hwA]; simp)
 rw [← hwA]
 have HA := Aside0.mk hwA
 clear hwA
 go_loopg [4, 10] L (fun kq v4 v10 w' => ∃ i : Nat, i ≤ L ∧ v10 = .int .i64 i ∧ v4 = .int .i64 (leastTo ws i) ∧ Aside0 (kq + i = L) ∧ Aside0 (Below wA.heap.size wA w'))
 case atStart => exact ⟨0, by omega, rfl, rfl, ⟨rfl⟩, ⟨Below.refl _ _⟩⟩
 case round =>
  obtain ⟨i, hi, rfl, rfl, HG, HBr⟩ := hrel
  by_cases hlt : i < L
  ·have HBw := Aside0.mk (show Below w.heap.size w wr from below_then HAb.out (by have := HAs.out; omega) HBr.out)
   obtain ⟨⟨wx, vx⟩, hx⟩ : ∃ x, l[i]? = some x := ⟨_, List.getElem?_eq_getElem (by rw [← HL.out]; exact hlt)⟩
   obtain ⟨⟨wy, vy⟩, hy⟩ : ∃ y, l[leastTo ws i]? = some y := ⟨_, List.getElem?_eq_getElem (by have := leastTo_lt ws i (by rw [HW.out]; simp; have := HL.out; omega) (by rw [HW.out]; simp; have := HL.out; omega); rw [HW.out] at this ⊢; simpa using this)⟩
   obtain ⟨Ax, nx, cx, ex⟩ := HV.out _ (List.mem_of_getElem? hx)
   obtain ⟨Ay, ny, cy, ey⟩ := HV.out _ (List.mem_of_getElem? hy)
   simp only at ex ey
   subst ex; subst ey
   obtain ⟨hx1, hx2⟩ := node_at (Kd.C_below HC.out HBw.out) hx
   obtain ⟨hy1, hy2⟩ := node_at (Kd.C_below HC.out HBw.out) hy
   have HX := Aside0.mk hx
   have HY := Aside0.mk hy
   clear hx hy
   go_wp2_with fail
   obtain ⟨w2, hw2⟩ : ∃ w2, w2 = wr.alloc (Obj.cells #[Value.int IntKind.i64 wx, Value.slice Ax nx cx] 133) := ⟨_, rfl⟩
   have hn1 : w2.cell? ⟨wr.heap.size, 0, none⟩ = some (.int .i64 wx) := by rw [hw2]; simp
   have HB2 := Aside0.mk (show Below wr.heap.size wr w2 from by rw [hw2]; exact (Below.refl _ _).alloc (Nat.le_refl _) _)
   have hy3 : w2.cell? ⟨g, leastTo ws i * 2, none⟩ = some (.int .i64 wy) := pw_cell_below HB2.out hy1
   rw [← hw2]
   clear hw2 hx1 hx2 hy1 hy2 hAc
   obtain ⟨at', hat⟩ : ∃ at', at' = leastTo ws i := ⟨_, rfl⟩
   have HAT := Aside0.mk hat
   have hatL : at' < L := by
    rw [hat]
    have := leastTo_lt ws i (by rw [HW.out]; simp; have := HL.out; omega) (by rw [HW.out]; simp; have := HL.out; omega)
    rw [HW.out] at this ⊢
    have h2 := HL.out
    simpa [← h2] using this
   rw [← hat] at hy3 ⊢
   clear hat
   have hat0 : (0 : Int) ≤ (at' : Int) := by omega
   have hat1 : (at' : Int) < (L : Int) := by omega
   have HS := Aside0.mk (show leastTo ws (i + 1) = if wx < wy then i else at' from by
    have hx := HX.out
    have hy := HY.out
    rw [leastTo_succ, ← HAT.out, HW.out]
    rw [← HAT.out] at hy
    simp [List.getD_eq_getElem?_getD, hx, hy])
   go_region
   by_cases hxy : wx < wy
   ·have hd : decide (wx < wy) = true := decide_eq_true hxy
    go_wp2_with fail
    go_roundg (gk - 1)
    case measure => have := HG.out; omega
    case rel => exact ⟨i + 1, by omega, by go_num, by rw [HS.out, if_pos hxy], ⟨by have := HG.out; omega⟩, ⟨below_then (HBr.out) HBr.out.size (by exact below_then HB2.out HB2.out.size (below_drew (Below.refl _ _)))⟩⟩
   ·have hd : decide (wx < wy) = false := decide_eq_false hxy
    go_wp2_with fail
    go_roundg (gk - 1)
    case measure => have := HG.out; omega
    case rel => exact ⟨i + 1, by omega, by go_num, by rw [HS.out, if_neg (by omega)], ⟨by have := HG.out; omega⟩, ⟨below_then (HBr.out) HBr.out.size (by exact below_then HB2.out HB2.out.size (below_drew (Below.refl _ _)))⟩⟩
  ·have hiL : i = L := by omega
   subst hiL
   have HBw := Aside0.mk (show Below w.heap.size w wr from below_then HAb.out (by have := HAs.out; omega) HBr.out)
   obtain ⟨⟨wy, vy⟩, hy⟩ : ∃ y, l[leastTo ws i]? = some y := ⟨_, List.getElem?_eq_getElem (by have := leastTo_lt ws i (by rw [HW.out]; simp; have := HL.out; omega) (by rw [HW.out]; simp; have := HL.out; omega); rw [HW.out] at this ⊢; simpa using this)⟩
   obtain ⟨Ay, ny, cy, ey⟩ := HV.out _ (List.mem_of_getElem? hy)
   simp only at ey
   subst ey
   obtain ⟨hy1, hy2⟩ := node_at (Kd.C_below HC.out HBw.out) hy
   have HY := Aside0.mk hy
   clear hy
   obtain ⟨at', hat⟩ : ∃ at', at' = leastTo ws i := ⟨_, rfl⟩
   have HAT := Aside0.mk hat
   have hatL : at' < i := by
    rw [hat]
    have := leastTo_lt ws i (by rw [HW.out]; simp; have := HL.out; omega) (by rw [HW.out]; simp; have := HL.out; omega)
    rw [HW.out] at this ⊢
    have h2 := HL.out
    simpa [← h2] using this
   rw [← hat] at hy1 hy2 ⊢
   clear hat
   have hat0 : (0 : Int) ≤ (at' : Int) := by omega
   have hat1 : (at' : Int) < (i : Int) := by omega
   go_wp2_with fail
   have hgl : g < w.heap.size := Kd.R_lt HO.out g (by simp [Value.ownBlock])
   have hrl : w.heap.size < wr.heap.size := by have := HAs.out; have := HBr.out.size; omega
   obtain ⟨w2, hw2⟩ : ∃ w2, w2 = wr.alloc (Obj.cells #[Value.int IntKind.i64 wy, Value.slice Ay ny cy] 133) := ⟨_, rfl⟩
   have HB2 := Aside0.mk (show Below wr.heap.size wr w2 from by rw [hw2]; exact (Below.refl _ _).alloc (Nat.le_refl _) _)
   have kN : w2.heap[wr.heap.size]? = some (.cells #[Value.int IntKind.i64 wy, Value.slice Ay ny cy] 133 (0, 0)) := by rw [hw2]; exact Array.getElem?_push_size
   have kA : w2.heap[w.heap.size]? = some (.cells #[Value.int IntKind.i64 0, Value.slice none 0 0] 133 (0, 0)) := by
    rw [HB2.out.block _ hrl, HBr.out.block _ (by have := HAs.out; omega), HA.out]; exact Array.getElem?_push_size
   rw [← hw2]
   have KN := Aside0.mk kN
   have KA := Aside0.mk kA
   have hn1 : w2.cell? ⟨wr.heap.size, 0, none⟩ = some (.int .i64 wy) := by rw [cell_of_row w2 _ _ _ _ _ kN]; rfl
   have hn2 : w2.cell? ⟨wr.heap.size, 1, none⟩ = some (.slice Ay ny cy) := by rw [cell_of_row w2 _ _ _ _ _ kN]; rfl
   have HB3 := Aside0.mk (show Below w.heap.size w w2 from below_then HBw.out HBw.out.size HB2.out)
   have HB4 := Aside0.mk (show Below w0.heap.size w0 w2 from below_then HB.out HB.out.size HB3.out)
   have HO2 := Aside0.mk (show Nodes w2 w0.heap.size (.slice (some ⟨g, 0, none⟩) i c) l from HL.out ▸ Kd.R_below HO.out HB3.out)
   have HLL := HL.out
   subst HLL
   clear hw2 kN kA hy1 hy2 hAc
   have hwr : IntKind.i64.wrap ((at' : Int) + 1) = (at' : Int) + 1 := IntWalk.i64_in _ (by omega)
   go_region_with (go_at_call 113; refine (delete_node g c at' l w0 _ (Kd.R_drew HO2.out) hatL (HB4.out.drew) hl).mono ?_; rintro e1 w3 ⟨rfl, hN, hB5, hg⟩; (have kN := blk_grown (show w2.drew.heap[wr.heap.size]? = _ from KN.out) hg (by simp; omega)); (have kA := blk_grown (show w2.drew.heap[w.heap.size]? = _ from KA.out) hg (by simp; omega)); (have hm1 : w3.cell? ⟨wr.heap.size, 0, none⟩ = some (.int .i64 wy) := by (rw [cell_of_row w3 _ _ _ _ _ kN]; rfl)); (have hm2 : w3.cell? ⟨wr.heap.size, 1, none⟩ = some (.slice Ay ny cy) := by (rw [cell_of_row w3 _ _ _ _ _ kN]; rfl)); (have hr1 : w3.cell? ⟨w.heap.size, 0, none⟩ = some (.int .i64 0) := by (rw [cell_of_row w3 _ _ _ _ _ kA]; rfl)); (have hr2 : w3.cell? ⟨w.heap.size, 1, none⟩ = some (.slice none 0 0) := by (rw [cell_of_row w3 _ _ _ _ _ kA]; rfl)); (have hf1 : w3.frozen? ⟨w.heap.size, 0, none⟩ = false := blk_frozen kA _); (have hf2 : w3.frozen? ⟨w.heap.size, 1, none⟩ = false := blk_frozen kA _); (have HN := Aside0.mk (And.intro hN (And.intro hB5 hg))); (have KA3 := Aside0.mk kA); clear kN kA hN hB5 hg)
   all_goals
    go_wp2_with fail
    (try simp only [Exit.inBlock, Exit.then])
    refine bodyPost_ret (results_ct rfl _ _ w.heap.size 133 #[.int .i64 wy, .slice Ay ny cy] (0, 0) _ rfl (by (with_reducible repeat (first | refine blk_drewN ?_ _ | refine blk_drew ?_ | refine blk_alloc ?_ _)); refine blk_put (cs := #[.int .i64 wy, .slice none 0 0]) ?_ 1 _ rfl; (with_reducible repeat (first | refine blk_drewN ?_ _ | refine blk_drew ?_ | refine blk_alloc ?_ _)); refine blk_put (cs := #[.int .i64 0, .slice none 0 0]) ?_ 0 _ rfl; (with_reducible repeat (first | refine blk_drewN ?_ _ | refine blk_drew ?_ | refine blk_alloc ?_ _)); exact KA3.out) Try.underlying133 rfl (by kernel_rfl)) rfl ?_
    obtain ⟨hN, hB5, hg⟩ := HN.out
    have hle : leastAt ws = at' := by
     rw [HAT.out, leastAt, HW.out, List.length_map]
    have hwb : w0.heap.size ≤ w.heap.size := HB.out.size
    have hw3 : Below w.heap.size w3 ((w3.setCell ⟨w.heap.size, 0, none⟩ (.int .i64 wy)).setCell ⟨w.heap.size, 1, none⟩ (.slice Ay ny cy)) :=
     Below.setCell (p := ⟨w.heap.size, 1, none⟩) (Below.setCell (p := ⟨w.heap.size, 0, none⟩) (Below.refl _ _) (Nat.le_refl _) _) (Nat.le_refl _) _
    refine ⟨_, by rw [hle, HAT.out]; exact HY.out, rfl, ?_, ?_, ?_⟩
    ·rw [hle]
     refine Kd.raw_any (Kd.R_far (Kd.R_far (Kd.raw_tight hN) ?_ _) ?_ _)
     all_goals (intro k hk; simp [Value.ownBlock] at hk ⊢; omega)
    ·exact hB5.trans ⟨hw3.os, hw3.tape, hw3.output, hw3.size, fun k hk => hw3.block k (by omega)⟩
    ·have h3 := HB3.out
     have h4 : w2.drew.heap.size = w2.heap.size := rfl
     exact ⟨hw3.os.trans (hg.os.trans h3.os), hw3.tape.trans (hg.tape.trans h3.tape), hw3.output.trans (hg.output.trans h3.output), by have := hg.size; have := h3.size; have := hw3.size; omega, fun k hk hne => (hw3.block k hk).trans ((hg.block k (by have := h3.size; omega) hne).trans (h3.block k hk))⟩

end Go.Proofs.Ytlffpaploefljaa.P
