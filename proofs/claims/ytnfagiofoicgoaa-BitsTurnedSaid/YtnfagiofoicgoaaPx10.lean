-- Written by a program of this session out of the translation. Lean checks it.
import Derived.Test.YtnfagiofoicgoaaPx0
import Derived.Test.YtnfagiofoicgoaaPx4
import Derived.Test.YtnfagiofoicgoaaPx9
namespace Go.Proofs.Ytnfagiofoicgoaa.P
open Go.RowKit Go.Proofs.YtnfagiofoicgoaaW.PrintWords Go.Proofs.YtnfagiofoicgoaaW.PrintLast Go.Proofs.YtnfagiofoicgoaaW.PrintMore
attribute [local go_sem] max2_int min2_int max_two min_two max_three min_three max_four min_four   -- for this text's walks alone
set_option linter.unusedVariables false
set_option linter.unusedSimpArgs false

-- PART
/-! ### wherrylaw01_BitsTurned: function 7 -/
mutual
def wherrylaw01_BitsTurned.j0 : Nat → Int → Int → Int → Bool → Option (Bool)
  | 0, _, _, _, _ => none
  | k + 1, x0, x1, x5, x44 => if x44 = true then (some false) else (wherrylaw01_BitsTurned.l0 k x0 x1 x5 0)
def wherrylaw01_BitsTurned.l0 : Nat → Int → Int → Int → Int → Option (Bool)
  | 0, _, _, _, _ => none
  | k + 1, x0, x1, x5, x9 => if x9 < x1 then (if 0 ≤ (IntKind.u64.wrap (x9)) then (if 0 ≤ (IntKind.u64.wrap (wrap64 ((wrap64 (x1 - 1)) - x9))) then (if (Go.bits .and .i64 (shr .i64 x5 (IntKind.u64.wrap (x9))) 1) = (Go.bits .and .i64 (shr .i64 x0 (IntKind.u64.wrap (wrap64 ((wrap64 (x1 - 1)) - x9)))) 1) then (wherrylaw01_BitsTurned.l0 k x0 x1 x5 (wrap64 (x9 + 1))) else (some false)) else (none)) else (none)) else (if 0 ≤ (IntKind.u64.wrap (x1)) then ((bits_Turn.f k (shl .i64 1 (IntKind.u64.wrap (x1))) x1).bind fun bt234 => (if x5 < (shl .i64 1 (IntKind.u64.wrap (x1))) then (if bt234.2 = 1 then ((wherrylaw01_wakes.f k).bind fun t236 => (some t236)) else (some false)) else (some false))) else (none))
end
def wherrylaw01_BitsTurned.f (k : Nat) (a0 : Int) (a1 : Int) : Option (Bool) := if 0 ≤ (IntKind.u64.wrap (wrap64 (Int.tmod (IntKind.u64.wrap (a1)) 25))) then ((bits_Turn.f k (Go.bits .and .i64 a0 (wrap64 ((shl .i64 1 (IntKind.u64.wrap (wrap64 (Int.tmod (IntKind.u64.wrap (a1)) 25)))) - 1))) (wrap64 (Int.tmod (IntKind.u64.wrap (a1)) 25))).bind fun bt230 => ((bits_Turn.f k bt230.1 (wrap64 (Int.tmod (IntKind.u64.wrap (a1)) 25))).bind fun bt232 => (if bt230.2 = 0 then (if bt232.2 = 0 then (wherrylaw01_BitsTurned.j0 k (Go.bits .and .i64 a0 (wrap64 ((shl .i64 1 (IntKind.u64.wrap (wrap64 (Int.tmod (IntKind.u64.wrap (a1)) 25)))) - 1))) (wrap64 (Int.tmod (IntKind.u64.wrap (a1)) 25)) bt230.1 (bt232.1 != (Go.bits .and .i64 a0 (wrap64 ((shl .i64 1 (IntKind.u64.wrap (wrap64 (Int.tmod (IntKind.u64.wrap (a1)) 25)))) - 1))))) else (wherrylaw01_BitsTurned.j0 k (Go.bits .and .i64 a0 (wrap64 ((shl .i64 1 (IntKind.u64.wrap (wrap64 (Int.tmod (IntKind.u64.wrap (a1)) 25)))) - 1))) (wrap64 (Int.tmod (IntKind.u64.wrap (a1)) 25)) bt230.1 true)) else (wherrylaw01_BitsTurned.j0 k (Go.bits .and .i64 a0 (wrap64 ((shl .i64 1 (IntKind.u64.wrap (wrap64 (Int.tmod (IntKind.u64.wrap (a1)) 25)))) - 1))) (wrap64 (Int.tmod (IntKind.u64.wrap (a1)) 25)) bt230.1 true)))) else (none)
theorem wherrylaw01_BitsTurned.mono_l : ∀ k, (∀ y0 y1 y2 y3, LeO (wherrylaw01_BitsTurned.j0 k y0 y1 y2 y3) (wherrylaw01_BitsTurned.j0 (k + 1) y0 y1 y2 y3)) ∧ (∀ y0 y1 y2 y3, LeO (wherrylaw01_BitsTurned.l0 k y0 y1 y2 y3) (wherrylaw01_BitsTurned.l0 (k + 1) y0 y1 y2 y3))
  | 0 => ⟨fun _ _ _ _ r h => by simp [wherrylaw01_BitsTurned.j0] at h, fun _ _ _ _ r h => by simp [wherrylaw01_BitsTurned.l0] at h⟩
  | k + 1 => by
    obtain ⟨ih0, ih1⟩ := wherrylaw01_BitsTurned.mono_l k
    refine ⟨?_, ?_⟩
    · intro y0 y1 y2 y3
      unfold wherrylaw01_BitsTurned.j0
      repeat' first
      | (with_reducible exact ih0 _ _ _ _)
      | (with_reducible exact ih1 _ _ _ _)
      | (with_reducible exact bits_Turn.mono _ _ _)
      | (with_reducible exact wherrylaw01_wakes.mono _)
      | (with_reducible exact LeO.refl _)
      | (with_reducible exact LeO.none _)
      | (with_reducible refine LeO.ite ?_ ?_)
      | (with_reducible refine LeO.bind ?_ (fun _ => ?_))
      | exact ih0 _ _ _ _
      | exact ih1 _ _ _ _
      | exact bits_Turn.mono _ _ _
      | exact wherrylaw01_wakes.mono _
      | exact LeO.none _
      | refine LeO.ite ?_ ?_
      | refine LeO.bind ?_ (fun _ => ?_)
    · intro y0 y1 y2 y3
      unfold wherrylaw01_BitsTurned.l0
      repeat' first
      | (with_reducible exact ih0 _ _ _ _)
      | (with_reducible exact ih1 _ _ _ _)
      | (with_reducible exact bits_Turn.mono _ _ _)
      | (with_reducible exact wherrylaw01_wakes.mono _)
      | (with_reducible exact LeO.refl _)
      | (with_reducible exact LeO.none _)
      | (with_reducible refine LeO.ite ?_ ?_)
      | (with_reducible refine LeO.bind ?_ (fun _ => ?_))
      | exact ih0 _ _ _ _
      | exact ih1 _ _ _ _
      | exact bits_Turn.mono _ _ _
      | exact wherrylaw01_wakes.mono _
      | exact LeO.none _
      | refine LeO.ite ?_ ?_
      | refine LeO.bind ?_ (fun _ => ?_)
theorem wherrylaw01_BitsTurned.mono : ∀ a0 a1 k, LeO (wherrylaw01_BitsTurned.f k a0 a1) (wherrylaw01_BitsTurned.f (k + 1) a0 a1) := by
  intro a0 a1 k
  obtain ⟨ih0, ih1⟩ := wherrylaw01_BitsTurned.mono_l k
  unfold wherrylaw01_BitsTurned.f
  repeat' first
      | (with_reducible exact ih0 _ _ _ _)
      | (with_reducible exact ih1 _ _ _ _)
      | (with_reducible exact bits_Turn.mono _ _ _)
      | (with_reducible exact wherrylaw01_wakes.mono _)
      | (with_reducible exact LeO.refl _)
      | (with_reducible exact LeO.none _)
      | (with_reducible refine LeO.ite ?_ ?_)
      | (with_reducible refine LeO.bind ?_ (fun _ => ?_))
      | exact ih0 _ _ _ _
      | exact ih1 _ _ _ _
      | exact bits_Turn.mono _ _ _
      | exact wherrylaw01_wakes.mono _
      | exact LeO.none _
      | refine LeO.ite ?_ ?_
      | refine LeO.bind ?_ (fun _ => ?_)
set_option maxHeartbeats 8000000 in
set_option maxRecDepth 100000 in
theorem wherrylaw01_BitsTurned.calls (k : Nat) (a0 : Int) (a1 : Int) (r : Bool) (w : World) (h : wherrylaw01_BitsTurned.f k a0 a1 = some r) :
    Calls Try.prog 7 #[.int .i64 a0, .int .i64 a1] w fun e w' => e = .returned (.bool r) ∧ Below w.heap.size w w' := by
  have HB := Aside0.mk (Below.refl w.heap.size w)
  have H : (if 0 ≤ (IntKind.u64.wrap (wrap64 (Int.tmod (IntKind.u64.wrap (a1)) 25))) then ((bits_Turn.f k (Go.bits .and .i64 a0 (wrap64 ((shl .i64 1 (IntKind.u64.wrap (wrap64 (Int.tmod (IntKind.u64.wrap (a1)) 25)))) - 1))) (wrap64 (Int.tmod (IntKind.u64.wrap (a1)) 25))).bind fun bt230 => ((bits_Turn.f k bt230.1 (wrap64 (Int.tmod (IntKind.u64.wrap (a1)) 25))).bind fun bt232 => (if bt230.2 = 0 then (if bt232.2 = 0 then (wherrylaw01_BitsTurned.j0 k (Go.bits .and .i64 a0 (wrap64 ((shl .i64 1 (IntKind.u64.wrap (wrap64 (Int.tmod (IntKind.u64.wrap (a1)) 25)))) - 1))) (wrap64 (Int.tmod (IntKind.u64.wrap (a1)) 25)) bt230.1 (bt232.1 != (Go.bits .and .i64 a0 (wrap64 ((shl .i64 1 (IntKind.u64.wrap (wrap64 (Int.tmod (IntKind.u64.wrap (a1)) 25)))) - 1))))) else (wherrylaw01_BitsTurned.j0 k (Go.bits .and .i64 a0 (wrap64 ((shl .i64 1 (IntKind.u64.wrap (wrap64 (Int.tmod (IntKind.u64.wrap (a1)) 25)))) - 1))) (wrap64 (Int.tmod (IntKind.u64.wrap (a1)) 25)) bt230.1 true)) else (wherrylaw01_BitsTurned.j0 k (Go.bits .and .i64 a0 (wrap64 ((shl .i64 1 (IntKind.u64.wrap (wrap64 (Int.tmod (IntKind.u64.wrap (a1)) 25)))) - 1))) (wrap64 (Int.tmod (IntKind.u64.wrap (a1)) 25)) bt230.1 true)))) else (none)) = some r := h
  clear h
  obtain ⟨ji3, hji3⟩ : ∃ j_ : Int, (IntKind.u64.wrap (wrap64 (Int.tmod (IntKind.u64.wrap (a1)) 25))) = j_ := ⟨_, rfl⟩
  replace H : (if 0 ≤ (ji3) then ((bits_Turn.f k (Go.bits .and .i64 a0 (wrap64 ((shl .i64 1 (ji3)) - 1))) (wrap64 (Int.tmod (IntKind.u64.wrap (a1)) 25))).bind fun bt230 => ((bits_Turn.f k bt230.1 (wrap64 (Int.tmod (IntKind.u64.wrap (a1)) 25))).bind fun bt232 => (if bt230.2 = 0 then (if bt232.2 = 0 then (wherrylaw01_BitsTurned.j0 k (Go.bits .and .i64 a0 (wrap64 ((shl .i64 1 (ji3)) - 1))) (wrap64 (Int.tmod (IntKind.u64.wrap (a1)) 25)) bt230.1 (bt232.1 != (Go.bits .and .i64 a0 (wrap64 ((shl .i64 1 (ji3)) - 1))))) else (wherrylaw01_BitsTurned.j0 k (Go.bits .and .i64 a0 (wrap64 ((shl .i64 1 (ji3)) - 1))) (wrap64 (Int.tmod (IntKind.u64.wrap (a1)) 25)) bt230.1 true)) else (wherrylaw01_BitsTurned.j0 k (Go.bits .and .i64 a0 (wrap64 ((shl .i64 1 (ji3)) - 1))) (wrap64 (Int.tmod (IntKind.u64.wrap (a1)) 25)) bt230.1 true)))) else (none)) = some r := by first | (rw [hji3] at H; exact H) | (simp only [hji3] at H ⊢; exact H)
  by_cases c4 : 0 ≤ (ji3)
  · rw [if_pos c4] at H
    have c4b0 := eq_true c4
    have c4b1 : decide (0 ≤ (ji3)) = true := decide_eq_true c4
    clear c4
    obtain ⟨ji5, hji5⟩ : ∃ j_ : Int, (shl .i64 1 (ji3)) = j_ := ⟨_, rfl⟩
    replace H : ((bits_Turn.f k (Go.bits .and .i64 a0 (wrap64 ((ji5) - 1))) (wrap64 (Int.tmod (IntKind.u64.wrap (a1)) 25))).bind fun bt230 => ((bits_Turn.f k bt230.1 (wrap64 (Int.tmod (IntKind.u64.wrap (a1)) 25))).bind fun bt232 => (if bt230.2 = 0 then (if bt232.2 = 0 then (wherrylaw01_BitsTurned.j0 k (Go.bits .and .i64 a0 (wrap64 ((ji5) - 1))) (wrap64 (Int.tmod (IntKind.u64.wrap (a1)) 25)) bt230.1 (bt232.1 != (Go.bits .and .i64 a0 (wrap64 ((ji5) - 1))))) else (wherrylaw01_BitsTurned.j0 k (Go.bits .and .i64 a0 (wrap64 ((ji5) - 1))) (wrap64 (Int.tmod (IntKind.u64.wrap (a1)) 25)) bt230.1 true)) else (wherrylaw01_BitsTurned.j0 k (Go.bits .and .i64 a0 (wrap64 ((ji5) - 1))) (wrap64 (Int.tmod (IntKind.u64.wrap (a1)) 25)) bt230.1 true)))) = some r := by first | (rw [hji5] at H; exact H) | (simp only [hji5] at H ⊢; exact H)
    have hji5_ : (IntKind.i64.wrap (1 * 2 ^ min (ji3).toNat 64)) = ji5 := hji5
    have hji5z : (ji3) ≤ 64 → (IntKind.i64.wrap (1 * 2 ^ (ji3).toNat)) = ji5 := shl_small hji5
    have hji5u : (IntKind.i64.wrap (2 ^ min (ji3).toNat 64)) = ji5 := by have h_ := hji5_; rw [Int.one_mul] at h_; exact h_
    have hji5v : (ji3) ≤ 64 → (IntKind.i64.wrap (2 ^ (ji3).toNat)) = ji5 := fun hle_ => by have h_ := hji5z hle_; rw [Int.one_mul] at h_; exact h_
    have hji5y : (wrap64 (1 * 2 ^ min (ji3).toNat 64)) = ji5 := (i64_w _).symm.trans hji5_
    have hji5x : (ji3) ≤ 64 → (wrap64 (1 * 2 ^ (ji3).toNat)) = ji5 := fun h_ => (i64_w _).symm.trans (hji5z h_)
    replace H := Option.bind_eq_some_iff.mp H
    obtain ⟨⟨t230, t231⟩, A60, H⟩ := H
    replace H : ((bits_Turn.f k t230 (wrap64 (Int.tmod (IntKind.u64.wrap (a1)) 25))).bind fun bt232 => (if t231 = 0 then (if bt232.2 = 0 then (wherrylaw01_BitsTurned.j0 k (Go.bits .and .i64 a0 (wrap64 ((ji5) - 1))) (wrap64 (Int.tmod (IntKind.u64.wrap (a1)) 25)) t230 (bt232.1 != (Go.bits .and .i64 a0 (wrap64 ((ji5) - 1))))) else (wherrylaw01_BitsTurned.j0 k (Go.bits .and .i64 a0 (wrap64 ((ji5) - 1))) (wrap64 (Int.tmod (IntKind.u64.wrap (a1)) 25)) t230 true)) else (wherrylaw01_BitsTurned.j0 k (Go.bits .and .i64 a0 (wrap64 ((ji5) - 1))) (wrap64 (Int.tmod (IntKind.u64.wrap (a1)) 25)) t230 true))) = some r := H
    have A6 := Aside0.mk A60
    clear A60
    replace H := Option.bind_eq_some_iff.mp H
    obtain ⟨⟨t232, t233⟩, A70, H⟩ := H
    replace H : (if t231 = 0 then (if t233 = 0 then (wherrylaw01_BitsTurned.j0 k (Go.bits .and .i64 a0 (wrap64 ((ji5) - 1))) (wrap64 (Int.tmod (IntKind.u64.wrap (a1)) 25)) t230 (t232 != (Go.bits .and .i64 a0 (wrap64 ((ji5) - 1))))) else (wherrylaw01_BitsTurned.j0 k (Go.bits .and .i64 a0 (wrap64 ((ji5) - 1))) (wrap64 (Int.tmod (IntKind.u64.wrap (a1)) 25)) t230 true)) else (wherrylaw01_BitsTurned.j0 k (Go.bits .and .i64 a0 (wrap64 ((ji5) - 1))) (wrap64 (Int.tmod (IntKind.u64.wrap (a1)) 25)) t230 true)) = some r := H
    have A7 := Aside0.mk A70
    clear A70
    have HC8 := Aside0.mk H
    clear H
    go_enter Try.func7, Try.ntmps7
    go_upto_region 5 with (first | ((with_reducible refine gate_callee (f := 16) rfl ?_); refine goesL_ (some 25) rfl rfl Try.func16 (by kernel_rfl) rfl #[.int .i64 (Go.bits .and .i64 a0 (wrap64 ((ji5) - 1))), .int .i64 (wrap64 (Int.tmod (IntKind.u64.wrap (a1)) 25))] rfl (by (try simp only [List.map_toArray, List.map_cons, List.map_nil]); first | done | (simp only [hji5]; rfl) | rfl | (simp only [List.length_drop, List.length_take]; rfl)) ?_; (with_reducible refine (bits_Turn.calls k (Go.bits .and .i64 a0 (wrap64 ((ji5) - 1))) (wrap64 (Int.tmod (IntKind.u64.wrap (a1)) 25)) t230 t231 _ A6.out).mono ?_); rintro e w' ⟨rfl, ⟨nd, rfl⟩⟩; refine ⟨_, rfl, ?_⟩) | ((with_reducible refine gate_callee (f := 16) rfl ?_); refine goesL_ (some 31) rfl rfl Try.func16 (by kernel_rfl) rfl #[.int .i64 t230, .int .i64 (wrap64 (Int.tmod (IntKind.u64.wrap (a1)) 25))] rfl (by (try simp only [List.map_toArray, List.map_cons, List.map_nil]); first | done | rfl | (simp only [List.length_drop, List.length_take]; rfl)) ?_; (with_reducible refine (bits_Turn.calls k t230 (wrap64 (Int.tmod (IntKind.u64.wrap (a1)) 25)) t232 t233 _ A7.out).mono ?_); rintro e w' ⟨rfl, ⟨nd, rfl⟩⟩; refine ⟨_, rfl, ?_⟩))
    (try simp only [Act.put, List.setIfInBounds_toArray, List.set_cons_zero, List.set_cons_succ])
    go_cut [44] (fun v44 wc => ∃ (kq : Nat) (x44_7 : Bool), v44 = .bool x44_7 ∧ Aside0 (wherrylaw01_BitsTurned.j0 kq (Go.bits .and .i64 a0 (wrap64 ((ji5) - 1))) (wrap64 (Int.tmod (IntKind.u64.wrap (a1)) 25)) t230 x44_7 = some r) ∧ Aside0 (kq ≤ k) ∧ Aside0 (Below w.heap.size w wc))
    case first =>
      have H := HC8.out
      clear HC8
      by_cases c9 : t231 = 0
      · rw [if_pos c9] at H
        have c9b0 : (t231 == 0) = true := beq_iff_eq.mpr c9
        have c9b1 : (t231 != 0) = false := bne_eq_false_iff_eq.mpr c9
        clear c9
        (first | rw [c9b0] | (simp only [i64_w, i32_w]; rw [c9b0]) | skip)
        by_cases c10 : t233 = 0
        · rw [if_pos c10] at H
          have c10b0 : (t233 == 0) = true := beq_iff_eq.mpr c10
          have c10b1 : (t233 != 0) = false := bne_eq_false_iff_eq.mpr c10
          clear c10
          have H' := Aside0.mk H
          clear H
          go_wp2
          go_meet
          case rel => exact ⟨_, ((t232 != (Go.bits .and .i64 a0 (wrap64 ((ji5) - 1))))), (by first | rfl | (simp; done) | (simp only [← hji5] <;> (first | rfl | simp)) | (simp [*]; done)), H', ⟨by first | omega | exact Nat.le_refl _⟩, ⟨by repeat (first | (with_reducible first | exact HB.out | apply below_alloc | apply pw_below_drewN | apply below_drew1) | exact HB.out)⟩⟩
        · rw [if_neg c10] at H
          have c10b0 : (t233 == 0) = false := beq_eq_false_iff_ne.mpr c10
          have c10b1 : (t233 != 0) = true := bne_iff_ne.mpr c10
          have H' := Aside0.mk H
          clear H
          go_wp2
          go_meet
          case rel => exact ⟨_, (true), (by first | rfl | (simp; done) | (simp [*]; done)), H', ⟨by first | omega | exact Nat.le_refl _⟩, ⟨by repeat (first | (with_reducible first | exact HB.out | apply below_alloc | apply pw_below_drewN | apply below_drew1) | exact HB.out)⟩⟩
      · rw [if_neg c9] at H
        have c9b0 : (t231 == 0) = false := beq_eq_false_iff_ne.mpr c9
        have c9b1 : (t231 != 0) = true := bne_iff_ne.mpr c9
        (first | rw [c9b0] | (simp only [i64_w, i32_w]; rw [c9b0]) | skip)
        have H' := Aside0.mk H
        clear H
        go_wp2
        go_meet
        case rel => exact ⟨_, (true), (by first | rfl | (simp; done) | (simp [*]; done)), H', ⟨by first | omega | exact Nat.le_refl _⟩, ⟨by repeat (first | (with_reducible first | exact HB.out | apply below_alloc | apply pw_below_drewN | apply below_drew1) | exact HB.out)⟩⟩
    case rest =>
      clear HC8
      try clear c1
      try clear p2
      try clear c4
      try clear c4b0
      try clear c4b1
      try clear p6
      try clear c7
      try clear c9
      try clear c9b0
      try clear c9b1
      try clear c10
      try clear c10b0
      try clear c10b1
      obtain ⟨kq, x44_7, rfl, HA, HJ7, HB⟩ := hcut
      cases kq with
      | zero => exact absurd HA.out (by simp [wherrylaw01_BitsTurned.j0])
      | succ kj7 =>
        have H := HA.out
        clear HA
        simp only [wherrylaw01_BitsTurned.j0] at H
        by_cases c11 : x44_7 = true
        · subst c11
          have H1 : (some false) = some r := by rw [if_pos rfl] at H; exact H
          clear H
          have H := H1
          clear H1
          obtain rfl := Option.some.inj H
          go_wp2
          go_ret
          exact ⟨by first | rfl | (simp [errW_none, errW_some] <;> rfl) | (simp only [← hji3, ← hji5]; first | rfl | (simp [errW_none, errW_some] <;> rfl)) | (simp [*, errW_none, errW_some] <;> rfl), by repeat (first | (with_reducible first | exact HB.out | apply below_alloc | apply pw_below_drewN | apply below_drew1) | exact HB.out)⟩
        · replace c11 := Bool.eq_false_iff.mpr c11
          subst c11
          have H1 : (wherrylaw01_BitsTurned.l0 kj7 (Go.bits .and .i64 a0 (wrap64 ((ji5) - 1))) (wrap64 (Int.tmod (IntKind.u64.wrap (a1)) 25)) t230 0) = some r := by rw [if_neg (show ¬ (false = true) by decide)] at H; exact H
          clear H
          have H := H1
          clear H1
          have H' := Aside0.mk H
          clear H
          go_wp2
          go_loopg [9] kj7 (fun kq v9 w' => ∃ (x9_2 : Int), v9 = .int .i64 x9_2 ∧ Aside0 (wherrylaw01_BitsTurned.l0 kq (Go.bits .and .i64 a0 (wrap64 ((ji5) - 1))) (wrap64 (Int.tmod (IntKind.u64.wrap (a1)) 25)) t230 x9_2 = some r) ∧ Aside0 (kq ≤ kj7) ∧ Aside0 (Below w.heap.size w w'))
          case atStart => exact ⟨(0), (by first | rfl | (simp; done) | (simp [*]; done)), H', ⟨Nat.le_refl _⟩, ⟨by repeat (first | (with_reducible first | exact HB.out | apply below_alloc | apply pw_below_drewN | apply below_drew1) | exact HB.out)⟩⟩
          case round =>
            clear H'
            try clear c1
            try clear p2
            try clear c4
            try clear c4b0
            try clear c4b1
            try clear p6
            try clear c7
            try clear c9
            try clear c9b0
            try clear c9b1
            try clear c10
            try clear c10b0
            try clear c10b1
            try clear c11
            try clear p2
            try clear p6
            obtain ⟨x9_2, rfl, HA, HK2, HB⟩ := hrel
            cases gk with
            | zero => exact absurd HA.out (by simp [wherrylaw01_BitsTurned.l0])
            | succ k2 =>
              have H := HA.out
              clear HA
              simp only [wherrylaw01_BitsTurned.l0] at H
              by_cases c12 : x9_2 < (wrap64 (Int.tmod (IntKind.u64.wrap (a1)) 25))
              · rw [if_pos c12] at H
                have c12b0 : decide (x9_2 < (wrap64 (Int.tmod (IntKind.u64.wrap (a1)) 25))) = true := decide_eq_true c12
                clear c12
                obtain ⟨ji13, hji13⟩ : ∃ j_ : Int, (IntKind.u64.wrap (x9_2)) = j_ := ⟨_, rfl⟩
                replace H : (if 0 ≤ (ji13) then (if 0 ≤ (IntKind.u64.wrap (wrap64 ((wrap64 ((wrap64 (Int.tmod (IntKind.u64.wrap (a1)) 25)) - 1)) - x9_2))) then (if (Go.bits .and .i64 (shr .i64 t230 (ji13)) 1) = (Go.bits .and .i64 (shr .i64 (Go.bits .and .i64 a0 (wrap64 ((ji5) - 1))) (IntKind.u64.wrap (wrap64 ((wrap64 ((wrap64 (Int.tmod (IntKind.u64.wrap (a1)) 25)) - 1)) - x9_2)))) 1) then (wherrylaw01_BitsTurned.l0 k2 (Go.bits .and .i64 a0 (wrap64 ((ji5) - 1))) (wrap64 (Int.tmod (IntKind.u64.wrap (a1)) 25)) t230 (wrap64 (x9_2 + 1))) else (some false)) else (none)) else (none)) = some r := by first | (rw [hji13] at H; exact H) | (simp only [hji13] at H ⊢; exact H)
                by_cases c14 : 0 ≤ (ji13)
                · rw [if_pos c14] at H
                  have c14b0 := eq_true c14
                  have c14b1 : decide (0 ≤ (ji13)) = true := decide_eq_true c14
                  clear c14
                  obtain ⟨ji15, hji15⟩ : ∃ j_ : Int, (shr .i64 t230 (ji13)) = j_ := ⟨_, rfl⟩
                  replace H : (if 0 ≤ (IntKind.u64.wrap (wrap64 ((wrap64 ((wrap64 (Int.tmod (IntKind.u64.wrap (a1)) 25)) - 1)) - x9_2))) then (if (Go.bits .and .i64 (ji15) 1) = (Go.bits .and .i64 (shr .i64 (Go.bits .and .i64 a0 (wrap64 ((ji5) - 1))) (IntKind.u64.wrap (wrap64 ((wrap64 ((wrap64 (Int.tmod (IntKind.u64.wrap (a1)) 25)) - 1)) - x9_2)))) 1) then (wherrylaw01_BitsTurned.l0 k2 (Go.bits .and .i64 a0 (wrap64 ((ji5) - 1))) (wrap64 (Int.tmod (IntKind.u64.wrap (a1)) 25)) t230 (wrap64 (x9_2 + 1))) else (some false)) else (none)) = some r := by first | (rw [hji15] at H; exact H) | (simp only [hji15] at H ⊢; exact H)
                  have hji15_ : (t230 / 2 ^ min (ji13).toNat 64) = ji15 := hji15
                  have hji15z : (ji13) ≤ 64 → (t230 / 2 ^ (ji13).toNat) = ji15 := shr_small hji15
                  obtain ⟨ji16, hji16⟩ : ∃ j_ : Int, (IntKind.u64.wrap (wrap64 ((wrap64 ((wrap64 (Int.tmod (IntKind.u64.wrap (a1)) 25)) - 1)) - x9_2))) = j_ := ⟨_, rfl⟩
                  replace H : (if 0 ≤ (ji16) then (if (Go.bits .and .i64 (ji15) 1) = (Go.bits .and .i64 (shr .i64 (Go.bits .and .i64 a0 (wrap64 ((ji5) - 1))) (ji16)) 1) then (wherrylaw01_BitsTurned.l0 k2 (Go.bits .and .i64 a0 (wrap64 ((ji5) - 1))) (wrap64 (Int.tmod (IntKind.u64.wrap (a1)) 25)) t230 (wrap64 (x9_2 + 1))) else (some false)) else (none)) = some r := by first | (rw [hji16] at H; exact H) | (simp only [hji16] at H ⊢; exact H)
                  by_cases c17 : 0 ≤ (ji16)
                  · rw [if_pos c17] at H
                    have c17b0 := eq_true c17
                    have c17b1 : decide (0 ≤ (ji16)) = true := decide_eq_true c17
                    clear c17
                    obtain ⟨ji18, hji18⟩ : ∃ j_ : Int, (shr .i64 (Go.bits .and .i64 a0 (wrap64 ((ji5) - 1))) (ji16)) = j_ := ⟨_, rfl⟩
                    replace H : (if (Go.bits .and .i64 (ji15) 1) = (Go.bits .and .i64 (ji18) 1) then (wherrylaw01_BitsTurned.l0 k2 (Go.bits .and .i64 a0 (wrap64 ((ji5) - 1))) (wrap64 (Int.tmod (IntKind.u64.wrap (a1)) 25)) t230 (wrap64 (x9_2 + 1))) else (some false)) = some r := by first | (rw [hji18] at H; exact H) | (simp only [hji18] at H ⊢; exact H)
                    have hji18_ : ((Go.bits .and .i64 a0 (wrap64 ((ji5) - 1))) / 2 ^ min (ji16).toNat 64) = ji18 := hji18
                    have hji18z : (ji16) ≤ 64 → ((Go.bits .and .i64 a0 (wrap64 ((ji5) - 1))) / 2 ^ (ji16).toNat) = ji18 := shr_small hji18
                    by_cases c19 : (Go.bits .and .i64 (ji15) 1) = (Go.bits .and .i64 (ji18) 1)
                    · rw [if_pos c19] at H
                      have c19b0 : ((Go.bits .and .i64 (ji15) 1) == (Go.bits .and .i64 (ji18) 1)) = true := beq_iff_eq.mpr c19
                      have c19b1 : ((Go.bits .and .i64 (ji15) 1) != (Go.bits .and .i64 (ji18) 1)) = false := bne_eq_false_iff_eq.mpr c19
                      clear c19
                      have H' := Aside0.mk H
                      clear H
                      go_wp2
                      go_roundg k2
                      case measure => have := HJ7.out; have := HK2.out; omega
                      case rel => exact ⟨(wrap64 (x9_2 + 1)), (by first | rfl | (simp; done) | (simp [*]; done)), H', ⟨by have := HJ7.out; have := HK2.out; omega⟩, ⟨by repeat (first | (with_reducible first | exact HB.out | apply below_alloc | apply pw_below_drewN | apply below_drew1) | exact HB.out)⟩⟩
                    · rw [if_neg c19] at H
                      have c19b0 : ((Go.bits .and .i64 (ji15) 1) == (Go.bits .and .i64 (ji18) 1)) = false := beq_eq_false_iff_ne.mpr c19
                      have c19b1 : ((Go.bits .and .i64 (ji15) 1) != (Go.bits .and .i64 (ji18) 1)) = true := bne_iff_ne.mpr c19
                      obtain rfl := Option.some.inj H
                      go_wp2
                      go_ret
                      exact ⟨by first | rfl | (simp [errW_none, errW_some] <;> rfl) | (simp only [← hji3, ← hji5, ← hji13, ← hji15, ← hji16, ← hji18]; first | rfl | (simp [errW_none, errW_some] <;> rfl)) | (simp [*, errW_none, errW_some] <;> rfl), by repeat (first | (with_reducible first | exact HB.out | apply below_alloc | apply pw_below_drewN | apply below_drew1) | exact HB.out)⟩
                  · rw [if_neg c17] at H
                    exact absurd H (by simp)
                · rw [if_neg c14] at H
                  exact absurd H (by simp)
              · rw [if_neg c12] at H
                have c12b0 : decide (x9_2 < (wrap64 (Int.tmod (IntKind.u64.wrap (a1)) 25))) = false := decide_eq_false c12
                clear c12
                obtain ⟨ji20, hji20⟩ : ∃ j_ : Int, (IntKind.u64.wrap ((wrap64 (Int.tmod (IntKind.u64.wrap (a1)) 25)))) = j_ := ⟨_, rfl⟩
                have q320 : ji3 = ji20 := hji3.symm.trans hji20
                replace H : (if 0 ≤ (ji20) then ((bits_Turn.f k2 (shl .i64 1 (ji20)) (wrap64 (Int.tmod (IntKind.u64.wrap (a1)) 25))).bind fun bt234 => (if t230 < (shl .i64 1 (ji20)) then (if bt234.2 = 1 then ((wherrylaw01_wakes.f k2).bind fun t236 => (some t236)) else (some false)) else (some false))) else (none)) = some r := by first | (rw [hji20] at H; exact H) | (simp only [hji20] at H ⊢; exact H)
                by_cases c21 : 0 ≤ (ji20)
                · rw [if_pos c21] at H
                  have c21b0 := eq_true c21
                  have c21b1 : decide (0 ≤ (ji20)) = true := decide_eq_true c21
                  clear c21
                  obtain ⟨ji22, hji22⟩ : ∃ j_ : Int, (shl .i64 1 (ji20)) = j_ := ⟨_, rfl⟩
                  replace H : ((bits_Turn.f k2 (ji22) (wrap64 (Int.tmod (IntKind.u64.wrap (a1)) 25))).bind fun bt234 => (if t230 < (ji22) then (if bt234.2 = 1 then ((wherrylaw01_wakes.f k2).bind fun t236 => (some t236)) else (some false)) else (some false))) = some r := by first | (rw [hji22] at H; exact H) | (simp only [hji22] at H ⊢; exact H)
                  have hji22_ : (IntKind.i64.wrap (1 * 2 ^ min (ji20).toNat 64)) = ji22 := hji22
                  have hji22z : (ji20) ≤ 64 → (IntKind.i64.wrap (1 * 2 ^ (ji20).toNat)) = ji22 := shl_small hji22
                  have hji22u : (IntKind.i64.wrap (2 ^ min (ji20).toNat 64)) = ji22 := by have h_ := hji22_; rw [Int.one_mul] at h_; exact h_
                  have hji22v : (ji20) ≤ 64 → (IntKind.i64.wrap (2 ^ (ji20).toNat)) = ji22 := fun hle_ => by have h_ := hji22z hle_; rw [Int.one_mul] at h_; exact h_
                  have hji22y : (wrap64 (1 * 2 ^ min (ji20).toNat 64)) = ji22 := (i64_w _).symm.trans hji22_
                  have hji22x : (ji20) ≤ 64 → (wrap64 (1 * 2 ^ (ji20).toNat)) = ji22 := fun h_ => (i64_w _).symm.trans (hji22z h_)
                  replace H := Option.bind_eq_some_iff.mp H
                  obtain ⟨⟨t234, t235⟩, A230, H⟩ := H
                  replace H : (if t230 < (ji22) then (if t235 = 1 then ((wherrylaw01_wakes.f k2).bind fun t236 => (some t236)) else (some false)) else (some false)) = some r := H
                  have A23 := Aside0.mk A230
                  clear A230
                  have c24b0 := eq_true (of_decide_eq_true (by first | (with_reducible assumption) | assumption) : 0 ≤ (ji20))
                  by_cases c26 : t230 < (ji22)
                  · rw [if_pos c26] at H
                    have c26b0 : decide (t230 < (ji22)) = true := decide_eq_true c26
                    clear c26
                    by_cases c27 : t235 = 1
                    · rw [if_pos c27] at H
                      have c27b0 : (t235 == 1) = true := beq_iff_eq.mpr c27
                      have c27b1 : (t235 != 1) = false := bne_eq_false_iff_eq.mpr c27
                      clear c27
                      replace H := Option.bind_eq_some_iff.mp H
                      obtain ⟨t236, A280, H⟩ := H
                      replace H : (some t236) = some r := H
                      have A28 := Aside0.mk A280
                      clear A280
                      obtain rfl := Option.some.inj H
                      go_wp2_with (first | ((with_reducible refine gate_callee (f := 16) rfl ?_); refine goesL_ (some 69) rfl rfl Try.func16 (by kernel_rfl) rfl #[.int .i64 ji22, .int .i64 (wrap64 (Int.tmod (IntKind.u64.wrap (a1)) 25))] rfl (by (try simp only [List.map_toArray, List.map_cons, List.map_nil]); first | done | (simp only [hji22]; rfl) | rfl | (simp only [List.length_drop, List.length_take]; rfl)) ?_; (with_reducible refine (bits_Turn.calls k2 ji22 (wrap64 (Int.tmod (IntKind.u64.wrap (a1)) 25)) t234 t235 _ A23.out).mono ?_); rintro e w' ⟨rfl, ⟨nd, rfl⟩⟩; refine ⟨_, rfl, ?_⟩) | (go_at_call 12; (with_reducible refine (wherrylaw01_wakes.calls k2  t236 _ A28.out).mono ?_); rintro e w29 ⟨rfl, hb⟩; have n0_ := Aside0.mk (below_step (by repeat (first | (with_reducible first | exact HB.out | apply below_alloc | apply pw_below_drewN | apply below_drew1) | exact HB.out)) hb); clear HB; have HB := n0_; clear n0_; (try clear hb); (try clear hb2); (try clear hk); (try clear hi)))
                      go_ret
                      exact ⟨by first | rfl | (simp [errW_none, errW_some] <;> rfl) | (simp only [← hji3, ← hji5, ← hji20, ← hji22]; first | rfl | (simp [errW_none, errW_some] <;> rfl)) | (simp [*, errW_none, errW_some] <;> rfl), by repeat (first | (with_reducible first | exact HB.out | apply below_alloc | apply pw_below_drewN | apply below_drew1) | exact HB.out)⟩
                    · rw [if_neg c27] at H
                      have c27b0 : (t235 == 1) = false := beq_eq_false_iff_ne.mpr c27
                      have c27b1 : (t235 != 1) = true := bne_iff_ne.mpr c27
                      obtain rfl := Option.some.inj H
                      go_wp2_with (first | ((with_reducible refine gate_callee (f := 16) rfl ?_); refine goesL_ (some 69) rfl rfl Try.func16 (by kernel_rfl) rfl #[.int .i64 ji22, .int .i64 (wrap64 (Int.tmod (IntKind.u64.wrap (a1)) 25))] rfl (by (try simp only [List.map_toArray, List.map_cons, List.map_nil]); first | done | (simp only [hji22]; rfl) | rfl | (simp only [List.length_drop, List.length_take]; rfl)) ?_; (with_reducible refine (bits_Turn.calls k2 ji22 (wrap64 (Int.tmod (IntKind.u64.wrap (a1)) 25)) t234 t235 _ A23.out).mono ?_); rintro e w' ⟨rfl, ⟨nd, rfl⟩⟩; refine ⟨_, rfl, ?_⟩))
                      go_ret
                      exact ⟨by first | rfl | (simp [errW_none, errW_some] <;> rfl) | (simp only [← hji3, ← hji5, ← hji20, ← hji22]; first | rfl | (simp [errW_none, errW_some] <;> rfl)) | (simp [*, errW_none, errW_some] <;> rfl), by repeat (first | (with_reducible first | exact HB.out | apply below_alloc | apply pw_below_drewN | apply below_drew1) | exact HB.out)⟩
                  · rw [if_neg c26] at H
                    have c26b0 : decide (t230 < (ji22)) = false := decide_eq_false c26
                    clear c26
                    obtain rfl := Option.some.inj H
                    go_wp2_with (first | ((with_reducible refine gate_callee (f := 16) rfl ?_); refine goesL_ (some 69) rfl rfl Try.func16 (by kernel_rfl) rfl #[.int .i64 ji22, .int .i64 (wrap64 (Int.tmod (IntKind.u64.wrap (a1)) 25))] rfl (by (try simp only [List.map_toArray, List.map_cons, List.map_nil]); first | done | (simp only [hji22]; rfl) | rfl | (simp only [List.length_drop, List.length_take]; rfl)) ?_; (with_reducible refine (bits_Turn.calls k2 ji22 (wrap64 (Int.tmod (IntKind.u64.wrap (a1)) 25)) t234 t235 _ A23.out).mono ?_); rintro e w' ⟨rfl, ⟨nd, rfl⟩⟩; refine ⟨_, rfl, ?_⟩))
                    go_ret
                    exact ⟨by first | rfl | (simp [errW_none, errW_some] <;> rfl) | (simp only [← hji3, ← hji5, ← hji20, ← hji22]; first | rfl | (simp [errW_none, errW_some] <;> rfl)) | (simp [*, errW_none, errW_some] <;> rfl), by repeat (first | (with_reducible first | exact HB.out | apply below_alloc | apply pw_below_drewN | apply below_drew1) | exact HB.out)⟩
                · rw [if_neg c21] at H
                  exact absurd H (by simp)
  · rw [if_neg c4] at H
    exact absurd H (by simp)

/-- THE ONE PURE STATEMENT of wherrylaw01_BitsTurned: yours. -/
def wherrylaw01_BitsTurned.Pure : Prop := ∀ (a0 : Int) (a1 : Int), (Lit.int .i64 a0).wf = true → (Lit.int .i64 a1).wf = true → ∃ k, wherrylaw01_BitsTurned.f k a0 a1 = some true
theorem wherrylaw01_BitsTurned.walk (P : wherrylaw01_BitsTurned.Pure) (a0 : Int) (a1 : Int) (w : World) (w0 : (Lit.int .i64 a0).wf = true) (w1 : (Lit.int .i64 a1).wf = true) :
    Calls Try.prog 7 #[.int .i64 a0, .int .i64 a1] w fun e w' => e = .returned (.bool true) ∧ Below w.heap.size w w' := by
  obtain ⟨k, h⟩ := P a0 a1 w0 w1
  refine (wherrylaw01_BitsTurned.calls k a0 a1 true w h).mono ?_
  rintro e w' ⟨rfl, hd⟩
  exact ⟨rfl, hd⟩

-- PART
end Go.Proofs.Ytnfagiofoicgoaa.P
