-- Written by a program of this session out of the translation. Lean checks it.
import Derived.Test.YtagdlmlanjjecaaPx0
import Derived.Test.YtagdlmlanjjecaaPx1
import Derived.Test.YtagdlmlanjjecaaPx8
import Derived.Test.YtagdlmlanjjecaaPx11
import Derived.Test.YtagdlmlanjjecaaPx17
namespace Go.Proofs.Ytagdlmlanjjecaa.P
open Go.RowKit Go.Proofs.YtagdlmlanjjecaaW.PrintWords Go.Proofs.YtagdlmlanjjecaaW.PrintLast Go.Proofs.YtagdlmlanjjecaaW.PrintMore
attribute [local go_sem] max2_int min2_int max_two min_two max_three min_three max_four min_four   -- for this text's walks alone
set_option linter.unusedVariables false
set_option linter.unusedSimpArgs false

-- PART
/-! ### wherrylaw04_MatchBent: function 7 -/
mutual
def wherrylaw04_MatchBent.j0 : Nat → List Int → Int → Int → Bool → Option (Bool)
  | 0, _, _, _, _ => none
  | k + 1, x0, x1, x2, x20 => if x20 = true then (some true) else ((wherrylaw04_wherryToks.f k x0).bind fun t244 => (if (IntKind.u64.wrap ((t244.length : Int))) = 0 then (none) else (wherrylaw04_MatchBent.l0 k (wrap64 (Int.tmod (IntKind.u64.wrap (x1)) (IntKind.u64.wrap ((t244.length : Int))))) x2 t244 0 0)))
def wherrylaw04_MatchBent.l0 : Nat → Int → Int → List (S40) → Int → Int → Option (Bool)
  | 0, _, _, _, _, _ => none
  | k + 1, x1, x2, x7, x8, x9 => if x9 < x1 then (if 0 ≤ x9 then (if x9 < (x7.length : Int) then (wherrylaw04_MatchBent.l0 k x1 x2 x7 (wrap64 (x8 + (mx 1 ((rd_T40 x7 x9).f1)))) (wrap64 (x9 + 1))) else (none)) else (none)) else ((wherrykeep_TwinToks.f x7).bind fun t248 => (if (Int.tmod (IntKind.u64.wrap (x2)) 4) = 0 then (if 0 ≤ x1 then (if x1 < (t248.length : Int) then (wherrylaw04_MatchBent.j2 k x7 (t248.set (x1 : Int).toNat (⟨0, 3, wrap64 (x8 + 1)⟩ : S40))) else (none)) else (none)) else (if (Int.tmod (IntKind.u64.wrap (x2)) 4) = 1 then (if 0 ≤ x1 then (if x1 < (t248.length : Int) then (wherrylaw04_MatchBent.j2 k x7 (t248.set (x1 : Int).toNat (⟨0, 2, 1⟩ : S40))) else (none)) else (none)) else (if (Int.tmod (IntKind.u64.wrap (x2)) 4) = 2 then (if 0 ≤ x1 then (if x1 < (t248.length : Int) then (wherrylaw04_MatchBent.j2 k x7 (t248.set (x1 : Int).toNat (⟨0, 259, 1⟩ : S40))) else (none)) else (none)) else (if 0 ≤ x1 then (if x1 < (t248.length : Int) then (wherrylaw04_MatchBent.j2 k x7 (t248.set (x1 : Int).toNat (⟨1, 3, 1⟩ : S40))) else (none)) else (none))))))
def wherrylaw04_MatchBent.j2 : Nat → List (S40) → List (S40) → Option (Bool)
  | 0, _, _ => none
  | k + 1, x7, x10 => (match_Expand.f k x10).bind fun bt255 => ((match_Check.f k x7).bind fun t259 => (if t259 = 0 then ((match_Check.f k x10).bind fun t260 => (if t260 = 1 then (if bt255.2 = 1 then (if (bt255.1.length : Int) = 0 then ((wherrylaw04_wakes.f).bind fun t261 => (some t261)) else (some false)) else (some false)) else (some false))) else (some false)))
end
def wherrylaw04_MatchBent.f (k : Nat) (l0 : List Int) (a1 : Int) (a2 : Int) : Option (Bool) := if (l0.length : Int) > 1200 then (wherrylaw04_MatchBent.j0 k l0 a1 a2 true) else (wherrylaw04_MatchBent.j0 k l0 a1 a2 ((l0.length : Int) == 0))
theorem wherrylaw04_MatchBent.mono_l : ∀ k, (∀ y0 y1 y2 y3, LeO (wherrylaw04_MatchBent.j0 k y0 y1 y2 y3) (wherrylaw04_MatchBent.j0 (k + 1) y0 y1 y2 y3)) ∧ (∀ y0 y1 y2 y3 y4, LeO (wherrylaw04_MatchBent.l0 k y0 y1 y2 y3 y4) (wherrylaw04_MatchBent.l0 (k + 1) y0 y1 y2 y3 y4)) ∧ (∀ y0 y1, LeO (wherrylaw04_MatchBent.j2 k y0 y1) (wherrylaw04_MatchBent.j2 (k + 1) y0 y1))
  | 0 => ⟨fun _ _ _ _ r h => by simp [wherrylaw04_MatchBent.j0] at h, fun _ _ _ _ _ r h => by simp [wherrylaw04_MatchBent.l0] at h, fun _ _ r h => by simp [wherrylaw04_MatchBent.j2] at h⟩
  | k + 1 => by
    obtain ⟨ih0, ih1, ih2⟩ := wherrylaw04_MatchBent.mono_l k
    refine ⟨?_, ?_, ?_⟩
    · intro y0 y1 y2 y3
      unfold wherrylaw04_MatchBent.j0
      repeat' first
      | (with_reducible exact ih0 _ _ _ _)
      | (with_reducible exact ih1 _ _ _ _ _)
      | (with_reducible exact ih2 _ _)
      | (with_reducible exact match_Check.mono _ _)
      | (with_reducible exact match_Expand.mono _ _)
      | (with_reducible exact wherrylaw04_wherryToks.mono _ _)
      | (with_reducible exact LeO.refl _)
      | (with_reducible exact LeO.none _)
      | (with_reducible refine LeO.ite ?_ ?_)
      | (with_reducible refine LeO.bind ?_ (fun _ => ?_))
      | exact ih0 _ _ _ _
      | exact ih1 _ _ _ _ _
      | exact ih2 _ _
      | exact match_Check.mono _ _
      | exact match_Expand.mono _ _
      | exact wherrylaw04_wherryToks.mono _ _
      | exact LeO.none _
      | refine LeO.ite ?_ ?_
      | refine LeO.bind ?_ (fun _ => ?_)
    · intro y0 y1 y2 y3 y4
      unfold wherrylaw04_MatchBent.l0
      repeat' first
      | (with_reducible exact ih0 _ _ _ _)
      | (with_reducible exact ih1 _ _ _ _ _)
      | (with_reducible exact ih2 _ _)
      | (with_reducible exact match_Check.mono _ _)
      | (with_reducible exact match_Expand.mono _ _)
      | (with_reducible exact wherrylaw04_wherryToks.mono _ _)
      | (with_reducible exact LeO.refl _)
      | (with_reducible exact LeO.none _)
      | (with_reducible refine LeO.ite ?_ ?_)
      | (with_reducible refine LeO.bind ?_ (fun _ => ?_))
      | exact ih0 _ _ _ _
      | exact ih1 _ _ _ _ _
      | exact ih2 _ _
      | exact match_Check.mono _ _
      | exact match_Expand.mono _ _
      | exact wherrylaw04_wherryToks.mono _ _
      | exact LeO.none _
      | refine LeO.ite ?_ ?_
      | refine LeO.bind ?_ (fun _ => ?_)
    · intro y0 y1
      unfold wherrylaw04_MatchBent.j2
      repeat' first
      | (with_reducible exact ih0 _ _ _ _)
      | (with_reducible exact ih1 _ _ _ _ _)
      | (with_reducible exact ih2 _ _)
      | (with_reducible exact match_Check.mono _ _)
      | (with_reducible exact match_Expand.mono _ _)
      | (with_reducible exact wherrylaw04_wherryToks.mono _ _)
      | (with_reducible exact LeO.refl _)
      | (with_reducible exact LeO.none _)
      | (with_reducible refine LeO.ite ?_ ?_)
      | (with_reducible refine LeO.bind ?_ (fun _ => ?_))
      | exact ih0 _ _ _ _
      | exact ih1 _ _ _ _ _
      | exact ih2 _ _
      | exact match_Check.mono _ _
      | exact match_Expand.mono _ _
      | exact wherrylaw04_wherryToks.mono _ _
      | exact LeO.none _
      | refine LeO.ite ?_ ?_
      | refine LeO.bind ?_ (fun _ => ?_)
theorem wherrylaw04_MatchBent.mono : ∀ a0 a1 a2 k, LeO (wherrylaw04_MatchBent.f k a0 a1 a2) (wherrylaw04_MatchBent.f (k + 1) a0 a1 a2) := by
  intro a0 a1 a2 k
  obtain ⟨ih0, ih1, ih2⟩ := wherrylaw04_MatchBent.mono_l k
  unfold wherrylaw04_MatchBent.f
  repeat' first
      | (with_reducible exact ih0 _ _ _ _)
      | (with_reducible exact ih1 _ _ _ _ _)
      | (with_reducible exact ih2 _ _)
      | (with_reducible exact match_Check.mono _ _)
      | (with_reducible exact match_Expand.mono _ _)
      | (with_reducible exact wherrylaw04_wherryToks.mono _ _)
      | (with_reducible exact LeO.refl _)
      | (with_reducible exact LeO.none _)
      | (with_reducible refine LeO.ite ?_ ?_)
      | (with_reducible refine LeO.bind ?_ (fun _ => ?_))
      | exact ih0 _ _ _ _
      | exact ih1 _ _ _ _ _
      | exact ih2 _ _
      | exact match_Check.mono _ _
      | exact match_Expand.mono _ _
      | exact wherrylaw04_wherryToks.mono _ _
      | exact LeO.none _
      | refine LeO.ite ?_ ?_
      | refine LeO.bind ?_ (fun _ => ?_)
set_option maxHeartbeats 8000000 in
set_option maxRecDepth 100000 in
theorem wherrylaw04_MatchBent.calls (k : Nat) (A0 : Option Addr) (c0 : Nat) (l0 : List Int) (a1 : Int) (a2 : Int) (r : Bool) (w : World) (hr0 : Kd.C (Kd.int .u8) w A0 l0.length l0) (hc0 : l0.length ≤ c0) (h : wherrylaw04_MatchBent.f k l0 a1 a2 = some r) :
    Calls Try.prog 7 #[.slice A0 l0.length c0, .int .i64 a1, .int .i64 a2] w fun e w' => e = .returned (.bool r) ∧ Below w.heap.size w w' := by
  have hu40 := Try.underlying40
  have HR0 := Aside0.mk hr0
  have HC0 := Aside0.mk hc0
  clear hr0 hc0
  have HB := Aside0.mk (Below.refl w.heap.size w)
  have H : (if (l0.length : Int) > 1200 then (wherrylaw04_MatchBent.j0 k l0 a1 a2 true) else (wherrylaw04_MatchBent.j0 k l0 a1 a2 ((l0.length : Int) == 0))) = some r := h
  clear h
  have HC4 := Aside0.mk H
  clear H
  go_enter Try.func7, Try.ntmps7
  go_upto_region 1 with (fail)
  go_cut [20] (fun v20 wc => ∃ (kq : Nat) (x20_3 : Bool), v20 = .bool x20_3 ∧ Aside0 (wherrylaw04_MatchBent.j0 kq l0 a1 a2 x20_3 = some r) ∧ Aside0 (kq ≤ k) ∧ Aside0 (Below w.heap.size w wc))
  case first =>
    have H := HC4.out
    clear HC4
    by_cases c5 : (l0.length : Int) > 1200
    · rw [if_pos c5] at H
      have c5b0 : decide (1200 < (l0.length : Int)) = true := decide_eq_true c5
      have c5b1 : decide (1200 < l0.length) = true := decide_eq_true (by omega)
      clear c5
      (first | rw [c5b0] | (simp only [i64_w, i32_w]; rw [c5b0]) | skip)
      have H' := Aside0.mk H
      clear H
      go_wp2
      go_meet
      case rel => exact ⟨_, (true), (by first | rfl | (simp; done) | (simp [*]; done)), H', ⟨by first | omega | exact Nat.le_refl _⟩, ⟨by repeat (first | (with_reducible first | exact HB.out | apply below_alloc | apply pw_below_drewN | apply below_drew1) | exact HB.out)⟩⟩
    · rw [if_neg c5] at H
      have c5b0 : decide (1200 < (l0.length : Int)) = false := decide_eq_false c5
      have c5b1 : decide (1200 < l0.length) = false := decide_eq_false (by omega)
      clear c5
      (first | rw [c5b0] | (simp only [i64_w, i32_w]; rw [c5b0]) | skip)
      have H' := Aside0.mk H
      clear H
      go_wp2
      go_meet
      case rel => exact ⟨_, (((l0.length : Int) == 0)), (by first | rfl | (simp; done) | (simp [*]; done)), H', ⟨by first | omega | exact Nat.le_refl _⟩, ⟨by repeat (first | (with_reducible first | exact HB.out | apply below_alloc | apply pw_below_drewN | apply below_drew1) | exact HB.out)⟩⟩
  case rest =>
    clear HC4
    try clear p2
    try clear c5
    try clear c5b0
    try clear c5b1
    obtain ⟨kq, x20_3, rfl, HA, HJ3, HB⟩ := hcut
    cases kq with
    | zero => exact absurd HA.out (by simp [wherrylaw04_MatchBent.j0])
    | succ kj3 =>
      have H := HA.out
      clear HA
      simp only [wherrylaw04_MatchBent.j0] at H
      by_cases c6 : x20_3 = true
      · subst c6
        have H1 : (some true) = some r := by rw [if_pos rfl] at H; exact H
        clear H
        have H := H1
        clear H1
        obtain rfl := Option.some.inj H
        go_wp2
        go_ret
        exact ⟨by first | rfl | (simp [errW_none, errW_some] <;> rfl) | (simp [*, errW_none, errW_some] <;> rfl), by repeat (first | (with_reducible first | exact HB.out | apply below_alloc | apply pw_below_drewN | apply below_drew1) | exact HB.out)⟩
      · replace c6 := Bool.eq_false_iff.mpr c6
        subst c6
        have H1 : ((wherrylaw04_wherryToks.f kj3 l0).bind fun t244 => (if (IntKind.u64.wrap ((t244.length : Int))) = 0 then (none) else (wherrylaw04_MatchBent.l0 kj3 (wrap64 (Int.tmod (IntKind.u64.wrap (a1)) (IntKind.u64.wrap ((t244.length : Int))))) a2 t244 0 0))) = some r := by rw [if_neg (show ¬ (false = true) by decide)] at H; exact H
        clear H
        have H := H1
        clear H1
        replace H := Option.bind_eq_some_iff.mp H
        obtain ⟨t244, A70, H⟩ := H
        replace H : (if (IntKind.u64.wrap ((t244.length : Int))) = 0 then (none) else (wherrylaw04_MatchBent.l0 kj3 (wrap64 (Int.tmod (IntKind.u64.wrap (a1)) (IntKind.u64.wrap ((t244.length : Int))))) a2 t244 0 0)) = some r := H
        have A7 := Aside0.mk A70
        clear A70
        by_cases c8 : (IntKind.u64.wrap ((t244.length : Int))) = 0
        · rw [if_pos c8] at H
          exact absurd H (by simp)
        · rw [if_neg c8] at H
          have c8b0 : ((IntKind.u64.wrap ((t244.length : Int))) == 0) = false := beq_eq_false_iff_ne.mpr c8
          have c8b1 : ((IntKind.u64.wrap ((t244.length : Int))) != 0) = true := bne_iff_ne.mpr c8
          have H' := Aside0.mk H
          clear H
          go_wp2_with (first | ((with_reducible refine gate_callee (f := 27) rfl ?_); refine goesL_ (some 22) rfl rfl Try.func27 (by kernel_rfl) rfl #[.slice A0 l0.length c0] rfl (by (try simp only [List.map_toArray, List.map_cons, List.map_nil]); first | done | rfl | (simp only [List.length_drop, List.length_take]; rfl)) ?_; (with_reducible refine (wherrylaw04_wherryToks.calls kj3 _ _ l0 t244 _ ?side1 ?side2 A7.out).mono ?_); (case side1 => repeat (first | exact (Kd.C_below HR0.out HB.out) | (with_reducible refine Kd.C_alloc ?_ _) | (with_reducible refine Kd.C_drewN ?_ _) | (with_reducible refine Kd.C_drew ?_))); (case side2 => exact HC0.out); rintro e w9 ⟨v245, rfl, ho0, hb⟩; refine ⟨_, rfl, ?_⟩; have n0_ := Aside0.mk (Kd.R_lower ho0 (below_size (by repeat (first | (with_reducible first | exact HB.out | apply below_alloc | apply pw_below_drewN | apply below_drew1) | exact HB.out)))); have n1_ := Aside0.mk (below_step (by repeat (first | (with_reducible first | exact HB.out | apply below_alloc | apply pw_below_drewN | apply below_drew1) | exact HB.out)) hb); clear HB; have HO246 := n0_; have HB := n1_; clear n0_ n1_; (try clear hb); (try clear hb2); (try clear hk); (try clear hi); (try clear ho0); obtain ⟨Ao10, co10, eo10⟩ := Kd.R_slice HO246.out; subst eo10))
          go_loopg [8, 9] kj3 (fun kq v8 v9 w' => ∃ (x8_2 : Int) (x9_2 : Int), v8 = .int .i64 x8_2 ∧ v9 = .int .i64 x9_2 ∧ Aside0 (wherrylaw04_MatchBent.l0 kq (wrap64 (Int.tmod (IntKind.u64.wrap (a1)) (IntKind.u64.wrap ((t244.length : Int))))) a2 t244 x8_2 x9_2 = some r) ∧ Aside0 (kq ≤ kj3) ∧ Aside0 (Kd.R k40 40 w' w.heap.size (fun _ => True) (.slice Ao10 t244.length co10) t244) ∧ Aside0 (Below w.heap.size w w'))
          case atStart => exact ⟨(0), (0), (by first | rfl | (simp; done) | (simp [*]; done)), (by first | rfl | (simp; done) | (simp [*]; done)), H', ⟨Nat.le_refl _⟩, ⟨by (with_reducible repeat (first | apply Kd.R_alloc | apply Kd.R_drewN | apply Kd.R_drew)); exact HO246.out⟩, ⟨by repeat (first | (with_reducible first | exact HB.out | apply below_alloc | apply pw_below_drewN | apply below_drew1) | exact HB.out)⟩⟩
          case round =>
            clear H'
            try clear c2
            try clear p2
            try clear c5
            try clear c5b0
            try clear c5b1
            try clear c6
            try clear p6
            try clear c7
            try clear c8
            try clear c8b0
            try clear c8b1
            try clear p2
            obtain ⟨x8_2, x9_2, rfl, rfl, HA, HK2, HO_7, HB⟩ := hrel
            cases gk with
            | zero => exact absurd HA.out (by simp [wherrylaw04_MatchBent.l0])
            | succ k2 =>
              have H := HA.out
              clear HA
              simp only [wherrylaw04_MatchBent.l0] at H
              by_cases c11 : x9_2 < (wrap64 (Int.tmod (IntKind.u64.wrap (a1)) (IntKind.u64.wrap ((t244.length : Int)))))
              · rw [if_pos c11] at H
                have c11b0 : decide (x9_2 < (wrap64 (Int.tmod (IntKind.u64.wrap (a1)) (IntKind.u64.wrap ((t244.length : Int)))))) = true := decide_eq_true c11
                clear c11
                by_cases c12 : 0 ≤ x9_2
                · rw [if_pos c12] at H
                  have c12b0 : decide (0 ≤ x9_2) = true := decide_eq_true c12
                  clear c12
                  by_cases c13 : x9_2 < (t244.length : Int)
                  · rw [if_pos c13] at H
                    have c13b0 : decide (x9_2 < (t244.length : Int)) = true := decide_eq_true c13
                    clear c13
                    obtain ⟨ji14, hji14⟩ : ∃ j_ : Int, (mx 1 ((rd_T40 t244 x9_2).f1)) = j_ := ⟨_, rfl⟩
                    replace H : (wherrylaw04_MatchBent.l0 k2 (wrap64 (Int.tmod (IntKind.u64.wrap (a1)) (IntKind.u64.wrap ((t244.length : Int))))) a2 t244 (wrap64 (x8_2 + (ji14))) (wrap64 (x9_2 + 1))) = some r := by first | (rw [hji14] at H; exact H) | (simp only [hji14] at H ⊢; exact H)
                    have hji14_ : (if 1 < ((rd_T40 t244 x9_2).f1) then ((rd_T40 t244 x9_2).f1) else 1) = ji14 := hji14
                    have H' := Aside0.mk H
                    clear H
                    have p247 : 0 ≤ (x9_2 : Int) := of_decide_eq_true (by first | (with_reducible assumption) | assumption)
                    have q247 : x9_2 < (t244.length : Int) := of_decide_eq_true (by first | (with_reducible assumption) | assumption)
                    obtain ⟨ad247, e247, hx247_0, hx247_1, hx247_2⟩ := at_T40 (Kd.R_reads' HO_7.out).2.2 x9_2 p247 q247
                    cases e247
                    replace p247 := eq_true p247
                    replace q247 := eq_true q247
                    go_wp2
                    go_roundg k2
                    case measure => have := HJ3.out; have := HK2.out; omega
                    case rel => exact ⟨(wrap64 (x8_2 + (ji14))), (wrap64 (x9_2 + 1)), (by first | rfl | (simp; done) | (simp only [← hji14] <;> (first | rfl | simp)) | (simp [*]; done)), (by first | rfl | (simp; done) | (simp [*]; done)), H', ⟨by have := HJ3.out; have := HK2.out; omega⟩, ⟨by (with_reducible repeat (first | apply Kd.R_alloc | apply Kd.R_drewN | apply Kd.R_drew)); exact HO_7.out⟩, ⟨by repeat (first | (with_reducible first | exact HB.out | apply below_alloc | apply pw_below_drewN | apply below_drew1) | exact HB.out)⟩⟩
                  · rw [if_neg c13] at H
                    exact absurd H (by simp)
                · rw [if_neg c12] at H
                  exact absurd H (by simp)
              · rw [if_neg c11] at H
                have c11b0 : decide (x9_2 < (wrap64 (Int.tmod (IntKind.u64.wrap (a1)) (IntKind.u64.wrap ((t244.length : Int)))))) = false := decide_eq_false c11
                clear c11
                replace H := Option.bind_eq_some_iff.mp H
                obtain ⟨t248, A150, H⟩ := H
                replace H : (if (Int.tmod (IntKind.u64.wrap (a2)) 4) = 0 then (if 0 ≤ (wrap64 (Int.tmod (IntKind.u64.wrap (a1)) (IntKind.u64.wrap ((t244.length : Int))))) then (if (wrap64 (Int.tmod (IntKind.u64.wrap (a1)) (IntKind.u64.wrap ((t244.length : Int))))) < (t248.length : Int) then (wherrylaw04_MatchBent.j2 k2 t244 (t248.set ((wrap64 (Int.tmod (IntKind.u64.wrap (a1)) (IntKind.u64.wrap ((t244.length : Int))))) : Int).toNat (⟨0, 3, wrap64 (x8_2 + 1)⟩ : S40))) else (none)) else (none)) else (if (Int.tmod (IntKind.u64.wrap (a2)) 4) = 1 then (if 0 ≤ (wrap64 (Int.tmod (IntKind.u64.wrap (a1)) (IntKind.u64.wrap ((t244.length : Int))))) then (if (wrap64 (Int.tmod (IntKind.u64.wrap (a1)) (IntKind.u64.wrap ((t244.length : Int))))) < (t248.length : Int) then (wherrylaw04_MatchBent.j2 k2 t244 (t248.set ((wrap64 (Int.tmod (IntKind.u64.wrap (a1)) (IntKind.u64.wrap ((t244.length : Int))))) : Int).toNat (⟨0, 2, 1⟩ : S40))) else (none)) else (none)) else (if (Int.tmod (IntKind.u64.wrap (a2)) 4) = 2 then (if 0 ≤ (wrap64 (Int.tmod (IntKind.u64.wrap (a1)) (IntKind.u64.wrap ((t244.length : Int))))) then (if (wrap64 (Int.tmod (IntKind.u64.wrap (a1)) (IntKind.u64.wrap ((t244.length : Int))))) < (t248.length : Int) then (wherrylaw04_MatchBent.j2 k2 t244 (t248.set ((wrap64 (Int.tmod (IntKind.u64.wrap (a1)) (IntKind.u64.wrap ((t244.length : Int))))) : Int).toNat (⟨0, 259, 1⟩ : S40))) else (none)) else (none)) else (if 0 ≤ (wrap64 (Int.tmod (IntKind.u64.wrap (a1)) (IntKind.u64.wrap ((t244.length : Int))))) then (if (wrap64 (Int.tmod (IntKind.u64.wrap (a1)) (IntKind.u64.wrap ((t244.length : Int))))) < (t248.length : Int) then (wherrylaw04_MatchBent.j2 k2 t244 (t248.set ((wrap64 (Int.tmod (IntKind.u64.wrap (a1)) (IntKind.u64.wrap ((t244.length : Int))))) : Int).toNat (⟨1, 3, 1⟩ : S40))) else (none)) else (none))))) = some r := H
                have A15 := Aside0.mk A150
                clear A150
                have HC16 := Aside0.mk H
                clear H
                go_upto_block 2 with (first | ((with_reducible refine gate_callee (f := 13) rfl ?_); refine goesL_ (some 44) rfl rfl Try.func13 (by kernel_rfl) rfl #[.slice Ao10 t244.length co10] rfl (by (try simp only [List.map_toArray, List.map_cons, List.map_nil]); first | done | rfl | (simp only [List.length_drop, List.length_take]; rfl)) ?_; (with_reducible refine (wherrykeep_TwinToks.calls _ _ t244 t248 _ ?side1 ?side2 A15.out).mono ?_); (case side1 => repeat (first | exact (Kd.R_reads' HO_7.out).2.2 | (with_reducible refine Kd.C_alloc ?_ _) | (with_reducible refine Kd.C_drewN ?_ _) | (with_reducible refine Kd.C_drew ?_))); (case side2 => exact (Kd.R_reads' HO_7.out).2.1); rintro e w17 ⟨v249, rfl, ho0, hb⟩; refine ⟨_, rfl, ?_⟩; have n0_ := Aside0.mk (Kd.R_elder' (by (with_reducible repeat (first | apply Kd.R_alloc | apply Kd.R_drewN | apply Kd.R_drew)); exact HO_7.out) (Kd.R_base ho0) hb); have n1_ := Aside0.mk (Kd.R_lower (Kd.R_new' ho0 (Kd.R_lt (by (with_reducible repeat (first | apply Kd.R_alloc | apply Kd.R_drewN | apply Kd.R_drew)); exact HO_7.out))) (below_size (by repeat (first | (with_reducible first | exact HB.out | apply below_alloc | apply pw_below_drewN | apply below_drew1) | exact HB.out)))); have n2_ := Aside0.mk (below_step (by repeat (first | (with_reducible first | exact HB.out | apply below_alloc | apply pw_below_drewN | apply below_drew1) | exact HB.out)) hb); clear HO_7; clear HB; have HO_7 := n0_; have HO250 := n1_; have HB := n2_; clear n0_ n1_ n2_; (try clear hb); (try clear hb2); (try clear hk); (try clear hi); (try clear ho0)))
                (try simp only [Act.put, List.setIfInBounds_toArray, List.set_cons_zero, List.set_cons_succ])
                go_cut [] (fun wc => ∃ (kq : Nat) (x10_15 : List (S40)), Aside0 (wherrylaw04_MatchBent.j2 kq t244 x10_15 = some r) ∧ Aside0 (kq ≤ k2) ∧ Aside0 (Kd.R k40 40 wc w.heap.size (fun k_ => some k_ ≠ (v249 : Value).ownBlock) (.slice Ao10 t244.length co10) t244) ∧ Aside0 (Kd.R k40 40 wc w.heap.size (fun k_ => some k_ ≠ ((.slice Ao10 t244.length co10) : Value).ownBlock) v249 x10_15) ∧ Aside0 (Below w.heap.size w wc))
                case first =>
                  have H := HC16.out
                  clear HC16
                  by_cases c18 : (Int.tmod (IntKind.u64.wrap (a2)) 4) = 0
                  · rw [if_pos c18] at H
                    have c18b0 : ((Int.tmod (IntKind.u64.wrap (a2)) 4) == 0) = true := beq_iff_eq.mpr c18
                    have c18b1 : ((Int.tmod (IntKind.u64.wrap (a2)) 4) != 0) = false := bne_eq_false_iff_eq.mpr c18
                    clear c18
                    (first | rw [c18b0] | (simp only [i64_w, i32_w]; rw [c18b0]) | skip)
                    obtain ⟨ji19, hji19⟩ : ∃ j_ : Int, (wrap64 (Int.tmod (IntKind.u64.wrap (a1)) (IntKind.u64.wrap ((t244.length : Int))))) = j_ := ⟨_, rfl⟩
                    replace H : (if 0 ≤ (ji19) then (if (ji19) < (t248.length : Int) then (wherrylaw04_MatchBent.j2 k2 t244 (t248.set ((ji19) : Int).toNat (⟨0, 3, wrap64 (x8_2 + 1)⟩ : S40))) else (none)) else (none)) = some r := by first | (rw [hji19] at H; exact H) | (simp only [hji19] at H ⊢; exact H)
                    (try rw [hji19] at c11b0)
                    have hji19w : (IntKind.i64.wrap (Int.tmod (IntKind.u64.wrap (a1)) (IntKind.u64.wrap ((t244.length : Int))))) = ji19 := (i64_w _).trans hji19
                    by_cases c20 : 0 ≤ (ji19)
                    · rw [if_pos c20] at H
                      have c20b0 : decide (0 ≤ (ji19)) = true := decide_eq_true c20
                      clear c20
                      by_cases c21 : (ji19) < (t248.length : Int)
                      · rw [if_pos c21] at H
                        have c21b0 : decide ((ji19) < (t248.length : Int)) = true := decide_eq_true c21
                        clear c21
                        obtain ⟨y251, hy251⟩ : ∃ y_ : List (S40), y_ = (t248.set ((ji19) : Int).toNat (⟨0, 3, wrap64 (x8_2 + 1)⟩ : S40)) := ⟨_, rfl⟩
                        replace H : (wherrylaw04_MatchBent.j2 k2 t244 y251) = some r := by first | (rw [hy251]; with_reducible exact H) | (have H2_ := (Option.bind_some _ _).symm.trans H; rw [hy251]; with_reducible exact H2_) | (have H2_ := (Option.bind_some _ _).symm.trans H; with_reducible exact H2_) | with_reducible exact H | (rw [hy251]; exact H) | exact H
                        have Ny251 := Aside0.mk hy251
                        clear hy251
                        have H' := Aside0.mk H
                        clear H
                        have p22 : 0 ≤ ((ji19) : Int) := of_decide_eq_true (by first | (with_reducible assumption) | assumption)
                        have q22 : ((ji19) : Int) < ((t248.length : Int) : Int) := of_decide_eq_true (by first | (with_reducible assumption) | assumption)
                        obtain ⟨go22, co22, eo22, gb22, gl22, cl22, HG22⟩ := Kd.R_form HO250.out (by omega)
                        (first | cases eo22 | (injection eo22 with ea_ en_ ec_; (first | subst ea_ | (injection ea_ with ea_; subst ea_)); subst ec_; clear en_))
                        have GB22 := Aside0.mk gb22
                        have GG22 := Aside0.mk HG22
                        clear gb22 gl22 HG22
                        obtain ⟨ce22, hcl22, hM22, hcc22, hfr22⟩ := Kd.R_elem HO250.out z40 ((ji19) : Int) p22 q22
                        obtain rfl := k40_openM hM22
                        have hx22_0 : w17.cell? ⟨go22, ((ji19) : Int).toNat * 3, none⟩ = some (.int .u8 ((rd_T40 t248 (ji19)).f0)) := hcc22 0 _ rfl
                        have hx22_1 : w17.cell? ⟨go22, ((ji19) : Int).toNat * 3 + 1, none⟩ = some (.int .i64 ((rd_T40 t248 (ji19)).f1)) := hcc22 1 _ rfl
                        have hx22_2 : w17.cell? ⟨go22, ((ji19) : Int).toNat * 3 + 2, none⟩ = some (.int .i64 ((rd_T40 t248 (ji19)).f2)) := hcc22 2 _ rfl
                        have hf22_0 : w17.frozen? ⟨go22, ((ji19) : Int).toNat * 3, none⟩ = false := hfr22 0
                        have hf22_1 : w17.frozen? ⟨go22, ((ji19) : Int).toNat * 3 + 1, none⟩ = false := hfr22 1
                        have hf22_2 : w17.frozen? ⟨go22, ((ji19) : Int).toNat * 3 + 2, none⟩ = false := hfr22 2
                        clear hcl22 hcc22 hfr22 hM22
                        replace p22 := eq_true p22
                        replace q22 := eq_true q22
                        have n_ := Aside0.mk (Kd.R_mono (ok' := (fun k_ => some k_ ≠ (.slice Ao10 t244.length co10 : Value).ownBlock)) HO250.out (fun k_ hk => hk.2))
                        clear HO250
                        have HO250 := n_
                        clear n_
                        have HX23 := Aside0.mk (show Kd.R k40 40 w17 w.heap.size (fun k_ => some k_ ≠ (.slice Ao10 t244.length co10 : Value).ownBlock) (.slice (some ⟨go22, 0, none⟩) t248.length co22) t248 from (by (with_reducible repeat (first | apply Kd.R_alloc | apply Kd.R_drewN | apply Kd.R_drew)); exact HO250.out))
                        obtain ⟨ce23, hcl23, hM23, hcc23, hfr23⟩ := Kd.R_elem HX23.out z40 ((ji19) : Int) (of_decide_eq_true (by first | (with_reducible assumption) | assumption)) (by have h_ : ((ji19) : Int) < ((t248.length : Int) : Int) := of_decide_eq_true (by first | (with_reducible assumption) | assumption); first | exact h_ | (have e_ := (Kd.R_reads' HO250.out).1; omega) | simpa using h_)
                        obtain rfl := k40_openM hM23
                        have HP23 := Kd.R_seg HX23.out ((ji19) : Int) (of_decide_eq_true (by first | (with_reducible assumption) | assumption)) (by have h_ : ((ji19) : Int) < ((t248.length : Int) : Int) := of_decide_eq_true (by first | (with_reducible assumption) | assumption); first | exact h_ | (have e_ := (Kd.R_reads' HO250.out).1; omega) | simpa using h_) (seg := [.int .u8 0, .int .i64 3, .int .i64 (wrap64 (x8_2 + 1))]) (j := 0) hcl23 hcc23 (show 3 ≤ 3 from by decide) (x' := (⟨0, 3, wrap64 (x8_2 + 1)⟩ : S40)) (k40_mkM _ _ _ (⟨0, 3, wrap64 (x8_2 + 1)⟩ : S40) ) (fun _ hk => hk)
                        have hx23_0 := hcc23 0 _ rfl
                        (try simp only [show (k40).sz = 3 from rfl, Nat.mul_one, Nat.add_zero] at hx23_0)
                        have hf23_0 := hfr23 0
                        (try simp only [show (k40).sz = 3 from rfl, Nat.mul_one, Nat.add_zero] at hf23_0)
                        have hx23_1 := hcc23 1 _ rfl
                        (try simp only [show (k40).sz = 3 from rfl, Nat.mul_one, Nat.add_zero] at hx23_1)
                        have hf23_1 := hfr23 1
                        (try simp only [show (k40).sz = 3 from rfl, Nat.mul_one, Nat.add_zero] at hf23_1)
                        have hx23_2 := hcc23 2 _ rfl
                        (try simp only [show (k40).sz = 3 from rfl, Nat.mul_one, Nat.add_zero] at hx23_2)
                        have hf23_2 := hfr23 2
                        (try simp only [show (k40).sz = 3 from rfl, Nat.mul_one, Nat.add_zero] at hf23_2)
                        clear hcl23 hcc23 hfr23 hM23
                        go_wp2_with (first | ((with_reducible refine gate_store (t := 40) (p := 59) rfl ?_); refine store_event (t := 40) (p := 59) (v := ?vo_w24) (w1 := (((w17.setCell ⟨go22, ((ji19) : Int).toNat * 3, none⟩ (.int .u8 0)).setCell ⟨go22, ((ji19) : Int).toNat * 3 + 1, none⟩ (.int .i64 3)).setCell ⟨go22, ((ji19) : Int).toNat * 3 + 2, none⟩ (.int .i64 (wrap64 (x8_2 + 1))))) ?hg ?ho ?hn ?hr ?_; (case ho => rfl); (case hg => rfl); (case hn => rfl); (case hr => first | (go_simp; done) | (go_simp; rfl)); intro w24 hw; have hg : w17.grownBy w24 (some go22) := (by rw [hw]; exact HP23.2); have hp_ : Kd.R k40 40 w24 w.heap.size (fun k_ => some k_ ≠ (.slice Ao10 t244.length co10 : Value).ownBlock) (.slice (some ⟨go22, 0, none⟩) t248.length co22) y251 := (by rw [hw, Ny251.out]; exact HP23.1); clear HP23; have n0_ := Aside0.mk (Kd.R_after (v := (.slice (some ⟨go22, 0, none⟩) t248.length co22)) (v1 := (.slice (some ⟨go22, 0, none⟩) t248.length co22)) (ok := (fun _ => True)) (by (with_reducible repeat (first | apply Kd.R_alloc | apply Kd.R_drewN | apply Kd.R_drew)); exact HO_7.out) hg (.inl rfl)); have n1_ := Aside0.mk (hp_); have n2_ := Aside0.mk ((by rw [hw]; exact below_set (below_set (below_set (HB.out) GB22.out) GB22.out) GB22.out : Below w.heap.size w w24)); clear HO_7; clear HO250; clear HB; have HO_7 := n0_; have HO250 := n1_; have HB := n2_; clear n0_ n1_ n2_; clear hg hw hp_))
                        go_meet
                        case rel => exact ⟨_, (y251), H', ⟨by have := HJ3.out; have := HK2.out; first | omega | exact Nat.le_refl _⟩, ⟨by (with_reducible repeat (first | apply Kd.R_alloc | apply Kd.R_drewN | apply Kd.R_drew)); exact Kd.R_mono HO_7.out (fun _ hk => hk.2)⟩, ⟨by (with_reducible repeat (first | apply Kd.R_alloc | apply Kd.R_drewN | apply Kd.R_drew)); exact HO250.out⟩, ⟨by repeat (first | (with_reducible first | exact HB.out | apply below_alloc | apply pw_below_drewN | apply below_drew1) | exact HB.out)⟩⟩
                      · rw [if_neg c21] at H
                        exact absurd H (by simp)
                    · rw [if_neg c20] at H
                      exact absurd H (by simp)
                  · rw [if_neg c18] at H
                    have c18b0 : ((Int.tmod (IntKind.u64.wrap (a2)) 4) == 0) = false := beq_eq_false_iff_ne.mpr c18
                    have c18b1 : ((Int.tmod (IntKind.u64.wrap (a2)) 4) != 0) = true := bne_iff_ne.mpr c18
                    (first | rw [c18b0] | (simp only [i64_w, i32_w]; rw [c18b0]) | skip)
                    by_cases c25 : (Int.tmod (IntKind.u64.wrap (a2)) 4) = 1
                    · rw [if_pos c25] at H
                      have c25b0 : ((Int.tmod (IntKind.u64.wrap (a2)) 4) == 1) = true := beq_iff_eq.mpr c25
                      have c25b1 : ((Int.tmod (IntKind.u64.wrap (a2)) 4) != 1) = false := bne_eq_false_iff_eq.mpr c25
                      clear c25
                      obtain ⟨ji26, hji26⟩ : ∃ j_ : Int, (wrap64 (Int.tmod (IntKind.u64.wrap (a1)) (IntKind.u64.wrap ((t244.length : Int))))) = j_ := ⟨_, rfl⟩
                      replace H : (if 0 ≤ (ji26) then (if (ji26) < (t248.length : Int) then (wherrylaw04_MatchBent.j2 k2 t244 (t248.set ((ji26) : Int).toNat (⟨0, 2, 1⟩ : S40))) else (none)) else (none)) = some r := by first | (rw [hji26] at H; exact H) | (simp only [hji26] at H ⊢; exact H)
                      (try rw [hji26] at c11b0)
                      have hji26w : (IntKind.i64.wrap (Int.tmod (IntKind.u64.wrap (a1)) (IntKind.u64.wrap ((t244.length : Int))))) = ji26 := (i64_w _).trans hji26
                      by_cases c27 : 0 ≤ (ji26)
                      · rw [if_pos c27] at H
                        have c27b0 : decide (0 ≤ (ji26)) = true := decide_eq_true c27
                        clear c27
                        by_cases c28 : (ji26) < (t248.length : Int)
                        · rw [if_pos c28] at H
                          have c28b0 : decide ((ji26) < (t248.length : Int)) = true := decide_eq_true c28
                          clear c28
                          obtain ⟨y252, hy252⟩ : ∃ y_ : List (S40), y_ = (t248.set ((ji26) : Int).toNat (⟨0, 2, 1⟩ : S40)) := ⟨_, rfl⟩
                          replace H : (wherrylaw04_MatchBent.j2 k2 t244 y252) = some r := by first | (rw [hy252]; with_reducible exact H) | (have H2_ := (Option.bind_some _ _).symm.trans H; rw [hy252]; with_reducible exact H2_) | (have H2_ := (Option.bind_some _ _).symm.trans H; with_reducible exact H2_) | with_reducible exact H | (rw [hy252]; exact H) | exact H
                          have Ny252 := Aside0.mk hy252
                          clear hy252
                          have H' := Aside0.mk H
                          clear H
                          have p29 : 0 ≤ ((ji26) : Int) := of_decide_eq_true (by first | (with_reducible assumption) | assumption)
                          have q29 : ((ji26) : Int) < ((t248.length : Int) : Int) := of_decide_eq_true (by first | (with_reducible assumption) | assumption)
                          obtain ⟨go29, co29, eo29, gb29, gl29, cl29, HG29⟩ := Kd.R_form HO250.out (by omega)
                          (first | cases eo29 | (injection eo29 with ea_ en_ ec_; (first | subst ea_ | (injection ea_ with ea_; subst ea_)); subst ec_; clear en_))
                          have GB29 := Aside0.mk gb29
                          have GG29 := Aside0.mk HG29
                          clear gb29 gl29 HG29
                          obtain ⟨ce29, hcl29, hM29, hcc29, hfr29⟩ := Kd.R_elem HO250.out z40 ((ji26) : Int) p29 q29
                          obtain rfl := k40_openM hM29
                          have hx29_0 : w17.cell? ⟨go29, ((ji26) : Int).toNat * 3, none⟩ = some (.int .u8 ((rd_T40 t248 (ji26)).f0)) := hcc29 0 _ rfl
                          have hx29_1 : w17.cell? ⟨go29, ((ji26) : Int).toNat * 3 + 1, none⟩ = some (.int .i64 ((rd_T40 t248 (ji26)).f1)) := hcc29 1 _ rfl
                          have hx29_2 : w17.cell? ⟨go29, ((ji26) : Int).toNat * 3 + 2, none⟩ = some (.int .i64 ((rd_T40 t248 (ji26)).f2)) := hcc29 2 _ rfl
                          have hf29_0 : w17.frozen? ⟨go29, ((ji26) : Int).toNat * 3, none⟩ = false := hfr29 0
                          have hf29_1 : w17.frozen? ⟨go29, ((ji26) : Int).toNat * 3 + 1, none⟩ = false := hfr29 1
                          have hf29_2 : w17.frozen? ⟨go29, ((ji26) : Int).toNat * 3 + 2, none⟩ = false := hfr29 2
                          clear hcl29 hcc29 hfr29 hM29
                          replace p29 := eq_true p29
                          replace q29 := eq_true q29
                          have n_ := Aside0.mk (Kd.R_mono (ok' := (fun k_ => some k_ ≠ (.slice Ao10 t244.length co10 : Value).ownBlock)) HO250.out (fun k_ hk => hk.2))
                          clear HO250
                          have HO250 := n_
                          clear n_
                          have HX30 := Aside0.mk (show Kd.R k40 40 w17 w.heap.size (fun k_ => some k_ ≠ (.slice Ao10 t244.length co10 : Value).ownBlock) (.slice (some ⟨go29, 0, none⟩) t248.length co29) t248 from (by (with_reducible repeat (first | apply Kd.R_alloc | apply Kd.R_drewN | apply Kd.R_drew)); exact HO250.out))
                          obtain ⟨ce30, hcl30, hM30, hcc30, hfr30⟩ := Kd.R_elem HX30.out z40 ((ji26) : Int) (of_decide_eq_true (by first | (with_reducible assumption) | assumption)) (by have h_ : ((ji26) : Int) < ((t248.length : Int) : Int) := of_decide_eq_true (by first | (with_reducible assumption) | assumption); first | exact h_ | (have e_ := (Kd.R_reads' HO250.out).1; omega) | simpa using h_)
                          obtain rfl := k40_openM hM30
                          have HP30 := Kd.R_seg HX30.out ((ji26) : Int) (of_decide_eq_true (by first | (with_reducible assumption) | assumption)) (by have h_ : ((ji26) : Int) < ((t248.length : Int) : Int) := of_decide_eq_true (by first | (with_reducible assumption) | assumption); first | exact h_ | (have e_ := (Kd.R_reads' HO250.out).1; omega) | simpa using h_) (seg := [.int .u8 0, .int .i64 2, .int .i64 1]) (j := 0) hcl30 hcc30 (show 3 ≤ 3 from by decide) (x' := (⟨0, 2, 1⟩ : S40)) (k40_mkM _ _ _ (⟨0, 2, 1⟩ : S40) ) (fun _ hk => hk)
                          have hx30_0 := hcc30 0 _ rfl
                          (try simp only [show (k40).sz = 3 from rfl, Nat.mul_one, Nat.add_zero] at hx30_0)
                          have hf30_0 := hfr30 0
                          (try simp only [show (k40).sz = 3 from rfl, Nat.mul_one, Nat.add_zero] at hf30_0)
                          have hx30_1 := hcc30 1 _ rfl
                          (try simp only [show (k40).sz = 3 from rfl, Nat.mul_one, Nat.add_zero] at hx30_1)
                          have hf30_1 := hfr30 1
                          (try simp only [show (k40).sz = 3 from rfl, Nat.mul_one, Nat.add_zero] at hf30_1)
                          have hx30_2 := hcc30 2 _ rfl
                          (try simp only [show (k40).sz = 3 from rfl, Nat.mul_one, Nat.add_zero] at hx30_2)
                          have hf30_2 := hfr30 2
                          (try simp only [show (k40).sz = 3 from rfl, Nat.mul_one, Nat.add_zero] at hf30_2)
                          clear hcl30 hcc30 hfr30 hM30
                          go_wp2_with (first | ((with_reducible refine gate_store (t := 40) (p := 65) rfl ?_); refine store_event (t := 40) (p := 65) (v := ?vo_w31) (w1 := (((w17.setCell ⟨go29, ((ji26) : Int).toNat * 3, none⟩ (.int .u8 0)).setCell ⟨go29, ((ji26) : Int).toNat * 3 + 1, none⟩ (.int .i64 2)).setCell ⟨go29, ((ji26) : Int).toNat * 3 + 2, none⟩ (.int .i64 1))) ?hg ?ho ?hn ?hr ?_; (case ho => rfl); (case hg => rfl); (case hn => rfl); (case hr => first | (go_simp; done) | (go_simp; rfl)); intro w31 hw; have hg : w17.grownBy w31 (some go29) := (by rw [hw]; exact HP30.2); have hp_ : Kd.R k40 40 w31 w.heap.size (fun k_ => some k_ ≠ (.slice Ao10 t244.length co10 : Value).ownBlock) (.slice (some ⟨go29, 0, none⟩) t248.length co29) y252 := (by rw [hw, Ny252.out]; exact HP30.1); clear HP30; have n0_ := Aside0.mk (Kd.R_after (v := (.slice (some ⟨go29, 0, none⟩) t248.length co29)) (v1 := (.slice (some ⟨go29, 0, none⟩) t248.length co29)) (ok := (fun _ => True)) (by (with_reducible repeat (first | apply Kd.R_alloc | apply Kd.R_drewN | apply Kd.R_drew)); exact HO_7.out) hg (.inl rfl)); have n1_ := Aside0.mk (hp_); have n2_ := Aside0.mk ((by rw [hw]; exact below_set (below_set (below_set (HB.out) GB29.out) GB29.out) GB29.out : Below w.heap.size w w31)); clear HO_7; clear HO250; clear HB; have HO_7 := n0_; have HO250 := n1_; have HB := n2_; clear n0_ n1_ n2_; clear hg hw hp_))
                          go_meet
                          case rel => exact ⟨_, (y252), H', ⟨by have := HJ3.out; have := HK2.out; first | omega | exact Nat.le_refl _⟩, ⟨by (with_reducible repeat (first | apply Kd.R_alloc | apply Kd.R_drewN | apply Kd.R_drew)); exact Kd.R_mono HO_7.out (fun _ hk => hk.2)⟩, ⟨by (with_reducible repeat (first | apply Kd.R_alloc | apply Kd.R_drewN | apply Kd.R_drew)); exact HO250.out⟩, ⟨by repeat (first | (with_reducible first | exact HB.out | apply below_alloc | apply pw_below_drewN | apply below_drew1) | exact HB.out)⟩⟩
                        · rw [if_neg c28] at H
                          exact absurd H (by simp)
                      · rw [if_neg c27] at H
                        exact absurd H (by simp)
                    · rw [if_neg c25] at H
                      have c25b0 : ((Int.tmod (IntKind.u64.wrap (a2)) 4) == 1) = false := beq_eq_false_iff_ne.mpr c25
                      have c25b1 : ((Int.tmod (IntKind.u64.wrap (a2)) 4) != 1) = true := bne_iff_ne.mpr c25
                      by_cases c32 : (Int.tmod (IntKind.u64.wrap (a2)) 4) = 2
                      · rw [if_pos c32] at H
                        have c32b0 : ((Int.tmod (IntKind.u64.wrap (a2)) 4) == 2) = true := beq_iff_eq.mpr c32
                        have c32b1 : ((Int.tmod (IntKind.u64.wrap (a2)) 4) != 2) = false := bne_eq_false_iff_eq.mpr c32
                        clear c32
                        obtain ⟨ji33, hji33⟩ : ∃ j_ : Int, (wrap64 (Int.tmod (IntKind.u64.wrap (a1)) (IntKind.u64.wrap ((t244.length : Int))))) = j_ := ⟨_, rfl⟩
                        replace H : (if 0 ≤ (ji33) then (if (ji33) < (t248.length : Int) then (wherrylaw04_MatchBent.j2 k2 t244 (t248.set ((ji33) : Int).toNat (⟨0, 259, 1⟩ : S40))) else (none)) else (none)) = some r := by first | (rw [hji33] at H; exact H) | (simp only [hji33] at H ⊢; exact H)
                        (try rw [hji33] at c11b0)
                        have hji33w : (IntKind.i64.wrap (Int.tmod (IntKind.u64.wrap (a1)) (IntKind.u64.wrap ((t244.length : Int))))) = ji33 := (i64_w _).trans hji33
                        by_cases c34 : 0 ≤ (ji33)
                        · rw [if_pos c34] at H
                          have c34b0 : decide (0 ≤ (ji33)) = true := decide_eq_true c34
                          clear c34
                          by_cases c35 : (ji33) < (t248.length : Int)
                          · rw [if_pos c35] at H
                            have c35b0 : decide ((ji33) < (t248.length : Int)) = true := decide_eq_true c35
                            clear c35
                            obtain ⟨y253, hy253⟩ : ∃ y_ : List (S40), y_ = (t248.set ((ji33) : Int).toNat (⟨0, 259, 1⟩ : S40)) := ⟨_, rfl⟩
                            replace H : (wherrylaw04_MatchBent.j2 k2 t244 y253) = some r := by first | (rw [hy253]; with_reducible exact H) | (have H2_ := (Option.bind_some _ _).symm.trans H; rw [hy253]; with_reducible exact H2_) | (have H2_ := (Option.bind_some _ _).symm.trans H; with_reducible exact H2_) | with_reducible exact H | (rw [hy253]; exact H) | exact H
                            have Ny253 := Aside0.mk hy253
                            clear hy253
                            have H' := Aside0.mk H
                            clear H
                            have p36 : 0 ≤ ((ji33) : Int) := of_decide_eq_true (by first | (with_reducible assumption) | assumption)
                            have q36 : ((ji33) : Int) < ((t248.length : Int) : Int) := of_decide_eq_true (by first | (with_reducible assumption) | assumption)
                            obtain ⟨go36, co36, eo36, gb36, gl36, cl36, HG36⟩ := Kd.R_form HO250.out (by omega)
                            (first | cases eo36 | (injection eo36 with ea_ en_ ec_; (first | subst ea_ | (injection ea_ with ea_; subst ea_)); subst ec_; clear en_))
                            have GB36 := Aside0.mk gb36
                            have GG36 := Aside0.mk HG36
                            clear gb36 gl36 HG36
                            obtain ⟨ce36, hcl36, hM36, hcc36, hfr36⟩ := Kd.R_elem HO250.out z40 ((ji33) : Int) p36 q36
                            obtain rfl := k40_openM hM36
                            have hx36_0 : w17.cell? ⟨go36, ((ji33) : Int).toNat * 3, none⟩ = some (.int .u8 ((rd_T40 t248 (ji33)).f0)) := hcc36 0 _ rfl
                            have hx36_1 : w17.cell? ⟨go36, ((ji33) : Int).toNat * 3 + 1, none⟩ = some (.int .i64 ((rd_T40 t248 (ji33)).f1)) := hcc36 1 _ rfl
                            have hx36_2 : w17.cell? ⟨go36, ((ji33) : Int).toNat * 3 + 2, none⟩ = some (.int .i64 ((rd_T40 t248 (ji33)).f2)) := hcc36 2 _ rfl
                            have hf36_0 : w17.frozen? ⟨go36, ((ji33) : Int).toNat * 3, none⟩ = false := hfr36 0
                            have hf36_1 : w17.frozen? ⟨go36, ((ji33) : Int).toNat * 3 + 1, none⟩ = false := hfr36 1
                            have hf36_2 : w17.frozen? ⟨go36, ((ji33) : Int).toNat * 3 + 2, none⟩ = false := hfr36 2
                            clear hcl36 hcc36 hfr36 hM36
                            replace p36 := eq_true p36
                            replace q36 := eq_true q36
                            have n_ := Aside0.mk (Kd.R_mono (ok' := (fun k_ => some k_ ≠ (.slice Ao10 t244.length co10 : Value).ownBlock)) HO250.out (fun k_ hk => hk.2))
                            clear HO250
                            have HO250 := n_
                            clear n_
                            have HX37 := Aside0.mk (show Kd.R k40 40 w17 w.heap.size (fun k_ => some k_ ≠ (.slice Ao10 t244.length co10 : Value).ownBlock) (.slice (some ⟨go36, 0, none⟩) t248.length co36) t248 from (by (with_reducible repeat (first | apply Kd.R_alloc | apply Kd.R_drewN | apply Kd.R_drew)); exact HO250.out))
                            obtain ⟨ce37, hcl37, hM37, hcc37, hfr37⟩ := Kd.R_elem HX37.out z40 ((ji33) : Int) (of_decide_eq_true (by first | (with_reducible assumption) | assumption)) (by have h_ : ((ji33) : Int) < ((t248.length : Int) : Int) := of_decide_eq_true (by first | (with_reducible assumption) | assumption); first | exact h_ | (have e_ := (Kd.R_reads' HO250.out).1; omega) | simpa using h_)
                            obtain rfl := k40_openM hM37
                            have HP37 := Kd.R_seg HX37.out ((ji33) : Int) (of_decide_eq_true (by first | (with_reducible assumption) | assumption)) (by have h_ : ((ji33) : Int) < ((t248.length : Int) : Int) := of_decide_eq_true (by first | (with_reducible assumption) | assumption); first | exact h_ | (have e_ := (Kd.R_reads' HO250.out).1; omega) | simpa using h_) (seg := [.int .u8 0, .int .i64 259, .int .i64 1]) (j := 0) hcl37 hcc37 (show 3 ≤ 3 from by decide) (x' := (⟨0, 259, 1⟩ : S40)) (k40_mkM _ _ _ (⟨0, 259, 1⟩ : S40) ) (fun _ hk => hk)
                            have hx37_0 := hcc37 0 _ rfl
                            (try simp only [show (k40).sz = 3 from rfl, Nat.mul_one, Nat.add_zero] at hx37_0)
                            have hf37_0 := hfr37 0
                            (try simp only [show (k40).sz = 3 from rfl, Nat.mul_one, Nat.add_zero] at hf37_0)
                            have hx37_1 := hcc37 1 _ rfl
                            (try simp only [show (k40).sz = 3 from rfl, Nat.mul_one, Nat.add_zero] at hx37_1)
                            have hf37_1 := hfr37 1
                            (try simp only [show (k40).sz = 3 from rfl, Nat.mul_one, Nat.add_zero] at hf37_1)
                            have hx37_2 := hcc37 2 _ rfl
                            (try simp only [show (k40).sz = 3 from rfl, Nat.mul_one, Nat.add_zero] at hx37_2)
                            have hf37_2 := hfr37 2
                            (try simp only [show (k40).sz = 3 from rfl, Nat.mul_one, Nat.add_zero] at hf37_2)
                            clear hcl37 hcc37 hfr37 hM37
                            go_wp2_with (first | ((with_reducible refine gate_store (t := 40) (p := 71) rfl ?_); refine store_event (t := 40) (p := 71) (v := ?vo_w38) (w1 := (((w17.setCell ⟨go36, ((ji33) : Int).toNat * 3, none⟩ (.int .u8 0)).setCell ⟨go36, ((ji33) : Int).toNat * 3 + 1, none⟩ (.int .i64 259)).setCell ⟨go36, ((ji33) : Int).toNat * 3 + 2, none⟩ (.int .i64 1))) ?hg ?ho ?hn ?hr ?_; (case ho => rfl); (case hg => rfl); (case hn => rfl); (case hr => first | (go_simp; done) | (go_simp; rfl)); intro w38 hw; have hg : w17.grownBy w38 (some go36) := (by rw [hw]; exact HP37.2); have hp_ : Kd.R k40 40 w38 w.heap.size (fun k_ => some k_ ≠ (.slice Ao10 t244.length co10 : Value).ownBlock) (.slice (some ⟨go36, 0, none⟩) t248.length co36) y253 := (by rw [hw, Ny253.out]; exact HP37.1); clear HP37; have n0_ := Aside0.mk (Kd.R_after (v := (.slice (some ⟨go36, 0, none⟩) t248.length co36)) (v1 := (.slice (some ⟨go36, 0, none⟩) t248.length co36)) (ok := (fun _ => True)) (by (with_reducible repeat (first | apply Kd.R_alloc | apply Kd.R_drewN | apply Kd.R_drew)); exact HO_7.out) hg (.inl rfl)); have n1_ := Aside0.mk (hp_); have n2_ := Aside0.mk ((by rw [hw]; exact below_set (below_set (below_set (HB.out) GB36.out) GB36.out) GB36.out : Below w.heap.size w w38)); clear HO_7; clear HO250; clear HB; have HO_7 := n0_; have HO250 := n1_; have HB := n2_; clear n0_ n1_ n2_; clear hg hw hp_))
                            go_meet
                            case rel => exact ⟨_, (y253), H', ⟨by have := HJ3.out; have := HK2.out; first | omega | exact Nat.le_refl _⟩, ⟨by (with_reducible repeat (first | apply Kd.R_alloc | apply Kd.R_drewN | apply Kd.R_drew)); exact Kd.R_mono HO_7.out (fun _ hk => hk.2)⟩, ⟨by (with_reducible repeat (first | apply Kd.R_alloc | apply Kd.R_drewN | apply Kd.R_drew)); exact HO250.out⟩, ⟨by repeat (first | (with_reducible first | exact HB.out | apply below_alloc | apply pw_below_drewN | apply below_drew1) | exact HB.out)⟩⟩
                          · rw [if_neg c35] at H
                            exact absurd H (by simp)
                        · rw [if_neg c34] at H
                          exact absurd H (by simp)
                      · rw [if_neg c32] at H
                        have c32b0 : ((Int.tmod (IntKind.u64.wrap (a2)) 4) == 2) = false := beq_eq_false_iff_ne.mpr c32
                        have c32b1 : ((Int.tmod (IntKind.u64.wrap (a2)) 4) != 2) = true := bne_iff_ne.mpr c32
                        obtain ⟨ji39, hji39⟩ : ∃ j_ : Int, (wrap64 (Int.tmod (IntKind.u64.wrap (a1)) (IntKind.u64.wrap ((t244.length : Int))))) = j_ := ⟨_, rfl⟩
                        replace H : (if 0 ≤ (ji39) then (if (ji39) < (t248.length : Int) then (wherrylaw04_MatchBent.j2 k2 t244 (t248.set ((ji39) : Int).toNat (⟨1, 3, 1⟩ : S40))) else (none)) else (none)) = some r := by first | (rw [hji39] at H; exact H) | (simp only [hji39] at H ⊢; exact H)
                        (try rw [hji39] at c11b0)
                        have hji39w : (IntKind.i64.wrap (Int.tmod (IntKind.u64.wrap (a1)) (IntKind.u64.wrap ((t244.length : Int))))) = ji39 := (i64_w _).trans hji39
                        by_cases c40 : 0 ≤ (ji39)
                        · rw [if_pos c40] at H
                          have c40b0 : decide (0 ≤ (ji39)) = true := decide_eq_true c40
                          clear c40
                          by_cases c41 : (ji39) < (t248.length : Int)
                          · rw [if_pos c41] at H
                            have c41b0 : decide ((ji39) < (t248.length : Int)) = true := decide_eq_true c41
                            clear c41
                            obtain ⟨y254, hy254⟩ : ∃ y_ : List (S40), y_ = (t248.set ((ji39) : Int).toNat (⟨1, 3, 1⟩ : S40)) := ⟨_, rfl⟩
                            replace H : (wherrylaw04_MatchBent.j2 k2 t244 y254) = some r := by first | (rw [hy254]; with_reducible exact H) | (have H2_ := (Option.bind_some _ _).symm.trans H; rw [hy254]; with_reducible exact H2_) | (have H2_ := (Option.bind_some _ _).symm.trans H; with_reducible exact H2_) | with_reducible exact H | (rw [hy254]; exact H) | exact H
                            have Ny254 := Aside0.mk hy254
                            clear hy254
                            have H' := Aside0.mk H
                            clear H
                            have p42 : 0 ≤ ((ji39) : Int) := of_decide_eq_true (by first | (with_reducible assumption) | assumption)
                            have q42 : ((ji39) : Int) < ((t248.length : Int) : Int) := of_decide_eq_true (by first | (with_reducible assumption) | assumption)
                            obtain ⟨go42, co42, eo42, gb42, gl42, cl42, HG42⟩ := Kd.R_form HO250.out (by omega)
                            (first | cases eo42 | (injection eo42 with ea_ en_ ec_; (first | subst ea_ | (injection ea_ with ea_; subst ea_)); subst ec_; clear en_))
                            have GB42 := Aside0.mk gb42
                            have GG42 := Aside0.mk HG42
                            clear gb42 gl42 HG42
                            obtain ⟨ce42, hcl42, hM42, hcc42, hfr42⟩ := Kd.R_elem HO250.out z40 ((ji39) : Int) p42 q42
                            obtain rfl := k40_openM hM42
                            have hx42_0 : w17.cell? ⟨go42, ((ji39) : Int).toNat * 3, none⟩ = some (.int .u8 ((rd_T40 t248 (ji39)).f0)) := hcc42 0 _ rfl
                            have hx42_1 : w17.cell? ⟨go42, ((ji39) : Int).toNat * 3 + 1, none⟩ = some (.int .i64 ((rd_T40 t248 (ji39)).f1)) := hcc42 1 _ rfl
                            have hx42_2 : w17.cell? ⟨go42, ((ji39) : Int).toNat * 3 + 2, none⟩ = some (.int .i64 ((rd_T40 t248 (ji39)).f2)) := hcc42 2 _ rfl
                            have hf42_0 : w17.frozen? ⟨go42, ((ji39) : Int).toNat * 3, none⟩ = false := hfr42 0
                            have hf42_1 : w17.frozen? ⟨go42, ((ji39) : Int).toNat * 3 + 1, none⟩ = false := hfr42 1
                            have hf42_2 : w17.frozen? ⟨go42, ((ji39) : Int).toNat * 3 + 2, none⟩ = false := hfr42 2
                            clear hcl42 hcc42 hfr42 hM42
                            replace p42 := eq_true p42
                            replace q42 := eq_true q42
                            have n_ := Aside0.mk (Kd.R_mono (ok' := (fun k_ => some k_ ≠ (.slice Ao10 t244.length co10 : Value).ownBlock)) HO250.out (fun k_ hk => hk.2))
                            clear HO250
                            have HO250 := n_
                            clear n_
                            have HX43 := Aside0.mk (show Kd.R k40 40 w17 w.heap.size (fun k_ => some k_ ≠ (.slice Ao10 t244.length co10 : Value).ownBlock) (.slice (some ⟨go42, 0, none⟩) t248.length co42) t248 from (by (with_reducible repeat (first | apply Kd.R_alloc | apply Kd.R_drewN | apply Kd.R_drew)); exact HO250.out))
                            obtain ⟨ce43, hcl43, hM43, hcc43, hfr43⟩ := Kd.R_elem HX43.out z40 ((ji39) : Int) (of_decide_eq_true (by first | (with_reducible assumption) | assumption)) (by have h_ : ((ji39) : Int) < ((t248.length : Int) : Int) := of_decide_eq_true (by first | (with_reducible assumption) | assumption); first | exact h_ | (have e_ := (Kd.R_reads' HO250.out).1; omega) | simpa using h_)
                            obtain rfl := k40_openM hM43
                            have HP43 := Kd.R_seg HX43.out ((ji39) : Int) (of_decide_eq_true (by first | (with_reducible assumption) | assumption)) (by have h_ : ((ji39) : Int) < ((t248.length : Int) : Int) := of_decide_eq_true (by first | (with_reducible assumption) | assumption); first | exact h_ | (have e_ := (Kd.R_reads' HO250.out).1; omega) | simpa using h_) (seg := [.int .u8 1, .int .i64 3, .int .i64 1]) (j := 0) hcl43 hcc43 (show 3 ≤ 3 from by decide) (x' := (⟨1, 3, 1⟩ : S40)) (k40_mkM _ _ _ (⟨1, 3, 1⟩ : S40) ) (fun _ hk => hk)
                            have hx43_0 := hcc43 0 _ rfl
                            (try simp only [show (k40).sz = 3 from rfl, Nat.mul_one, Nat.add_zero] at hx43_0)
                            have hf43_0 := hfr43 0
                            (try simp only [show (k40).sz = 3 from rfl, Nat.mul_one, Nat.add_zero] at hf43_0)
                            have hx43_1 := hcc43 1 _ rfl
                            (try simp only [show (k40).sz = 3 from rfl, Nat.mul_one, Nat.add_zero] at hx43_1)
                            have hf43_1 := hfr43 1
                            (try simp only [show (k40).sz = 3 from rfl, Nat.mul_one, Nat.add_zero] at hf43_1)
                            have hx43_2 := hcc43 2 _ rfl
                            (try simp only [show (k40).sz = 3 from rfl, Nat.mul_one, Nat.add_zero] at hx43_2)
                            have hf43_2 := hfr43 2
                            (try simp only [show (k40).sz = 3 from rfl, Nat.mul_one, Nat.add_zero] at hf43_2)
                            clear hcl43 hcc43 hfr43 hM43
                            go_wp2_with (first | ((with_reducible refine gate_store (t := 40) (p := 51) rfl ?_); refine store_event (t := 40) (p := 51) (v := ?vo_w44) (w1 := (((w17.setCell ⟨go42, ((ji39) : Int).toNat * 3, none⟩ (.int .u8 1)).setCell ⟨go42, ((ji39) : Int).toNat * 3 + 1, none⟩ (.int .i64 3)).setCell ⟨go42, ((ji39) : Int).toNat * 3 + 2, none⟩ (.int .i64 1))) ?hg ?ho ?hn ?hr ?_; (case ho => rfl); (case hg => rfl); (case hn => rfl); (case hr => first | (go_simp; done) | (go_simp; rfl)); intro w44 hw; have hg : w17.grownBy w44 (some go42) := (by rw [hw]; exact HP43.2); have hp_ : Kd.R k40 40 w44 w.heap.size (fun k_ => some k_ ≠ (.slice Ao10 t244.length co10 : Value).ownBlock) (.slice (some ⟨go42, 0, none⟩) t248.length co42) y254 := (by rw [hw, Ny254.out]; exact HP43.1); clear HP43; have n0_ := Aside0.mk (Kd.R_after (v := (.slice (some ⟨go42, 0, none⟩) t248.length co42)) (v1 := (.slice (some ⟨go42, 0, none⟩) t248.length co42)) (ok := (fun _ => True)) (by (with_reducible repeat (first | apply Kd.R_alloc | apply Kd.R_drewN | apply Kd.R_drew)); exact HO_7.out) hg (.inl rfl)); have n1_ := Aside0.mk (hp_); have n2_ := Aside0.mk ((by rw [hw]; exact below_set (below_set (below_set (HB.out) GB42.out) GB42.out) GB42.out : Below w.heap.size w w44)); clear HO_7; clear HO250; clear HB; have HO_7 := n0_; have HO250 := n1_; have HB := n2_; clear n0_ n1_ n2_; clear hg hw hp_))
                            go_meet
                            case rel => exact ⟨_, (y254), H', ⟨by have := HJ3.out; have := HK2.out; first | omega | exact Nat.le_refl _⟩, ⟨by (with_reducible repeat (first | apply Kd.R_alloc | apply Kd.R_drewN | apply Kd.R_drew)); exact Kd.R_mono HO_7.out (fun _ hk => hk.2)⟩, ⟨by (with_reducible repeat (first | apply Kd.R_alloc | apply Kd.R_drewN | apply Kd.R_drew)); exact HO250.out⟩, ⟨by repeat (first | (with_reducible first | exact HB.out | apply below_alloc | apply pw_below_drewN | apply below_drew1) | exact HB.out)⟩⟩
                          · rw [if_neg c41] at H
                            exact absurd H (by simp)
                        · rw [if_neg c40] at H
                          exact absurd H (by simp)
                case rest =>
                  clear HC16
                  try clear c1
                  try clear c2
                  try clear p2
                  try clear q2
                  try clear hx2
                  try clear c3
                  try clear p3
                  try clear q3
                  try clear hx3
                  try clear hf3
                  try clear c4
                  try clear p4
                  try clear q4
                  try clear hx4
                  try clear hf4
                  try clear c5
                  try clear c5b0
                  try clear c5b1
                  try clear c6
                  try clear p6
                  try clear c7
                  try clear c8
                  try clear c8b0
                  try clear c8b1
                  try clear c11
                  try clear c11b0
                  try clear c12
                  try clear c12b0
                  try clear c13
                  try clear c13b0
                  try clear c18
                  try clear c18b0
                  try clear c18b1
                  try clear c20
                  try clear c20b0
                  try clear c21
                  try clear c21b0
                  try clear c22
                  try clear p22
                  try clear q22
                  try clear hx22
                  try clear hf22
                  try clear c23
                  try clear hx23
                  try clear hf23
                  try clear p24
                  try clear q24
                  try clear hx24
                  try clear c25
                  try clear c25b0
                  try clear c25b1
                  try clear c27
                  try clear c27b0
                  try clear c28
                  try clear c28b0
                  try clear c29
                  try clear p29
                  try clear q29
                  try clear hx29
                  try clear hf29
                  try clear c30
                  try clear hx30
                  try clear hf30
                  try clear c32
                  try clear c32b0
                  try clear c32b1
                  try clear c34
                  try clear c34b0
                  try clear c35
                  try clear c35b0
                  try clear c36
                  try clear p36
                  try clear q36
                  try clear hx36
                  try clear hf36
                  try clear c37
                  try clear hx37
                  try clear hf37
                  try clear c40
                  try clear c40b0
                  try clear c41
                  try clear c41b0
                  try clear c42
                  try clear p42
                  try clear q42
                  try clear hx42
                  try clear hf42
                  try clear c43
                  try clear hx43
                  try clear hf43
                  try clear hx22_0
                  try clear hx22_1
                  try clear hx22_2
                  try clear hx23_0
                  try clear hx23_1
                  try clear hx23_2
                  try clear hx247_0
                  try clear hx247_1
                  try clear hx247_2
                  try clear hx29_0
                  try clear hx29_1
                  try clear hx29_2
                  try clear hx30_0
                  try clear hx30_1
                  try clear hx30_2
                  try clear hx36_0
                  try clear hx36_1
                  try clear hx36_2
                  try clear hx37_0
                  try clear hx37_1
                  try clear hx37_2
                  try clear hx42_0
                  try clear hx42_1
                  try clear hx42_2
                  try clear hx43_0
                  try clear hx43_1
                  try clear hx43_2
                  try clear p2
                  try clear p22
                  try clear p247
                  try clear p29
                  try clear p36
                  try clear p42
                  try clear p6
                  try clear q22
                  try clear q247
                  try clear q29
                  try clear q36
                  try clear q42
                  obtain ⟨kq, x10_15, HA, HJ15, HO_7, HO_10, HB⟩ := hcut
                  cases kq with
                  | zero => exact absurd HA.out (by simp [wherrylaw04_MatchBent.j2])
                  | succ kj15 =>
                    have H := HA.out
                    clear HA
                    simp only [wherrylaw04_MatchBent.j2] at H
                    replace H := Option.bind_eq_some_iff.mp H
                    obtain ⟨⟨t255, t256⟩, A450, H⟩ := H
                    replace H : ((match_Check.f kj15 t244).bind fun t259 => (if t259 = 0 then ((match_Check.f kj15 x10_15).bind fun t260 => (if t260 = 1 then (if t256 = 1 then (if (t255.length : Int) = 0 then ((wherrylaw04_wakes.f).bind fun t261 => (some t261)) else (some false)) else (some false)) else (some false))) else (some false))) = some r := H
                    have A45 := Aside0.mk A450
                    clear A450
                    replace H := Option.bind_eq_some_iff.mp H
                    obtain ⟨t259, A460, H⟩ := H
                    replace H : (if t259 = 0 then ((match_Check.f kj15 x10_15).bind fun t260 => (if t260 = 1 then (if t256 = 1 then (if (t255.length : Int) = 0 then ((wherrylaw04_wakes.f).bind fun t261 => (some t261)) else (some false)) else (some false)) else (some false))) else (some false)) = some r := H
                    have A46 := Aside0.mk A460
                    clear A460
                    by_cases c47 : t259 = 0
                    · rw [if_pos c47] at H
                      have c47b0 : (t259 == 0) = true := beq_iff_eq.mpr c47
                      have c47b1 : (t259 != 0) = false := bne_eq_false_iff_eq.mpr c47
                      clear c47
                      replace H := Option.bind_eq_some_iff.mp H
                      obtain ⟨t260, A480, H⟩ := H
                      replace H : (if t260 = 1 then (if t256 = 1 then (if (t255.length : Int) = 0 then ((wherrylaw04_wakes.f).bind fun t261 => (some t261)) else (some false)) else (some false)) else (some false)) = some r := H
                      have A48 := Aside0.mk A480
                      clear A480
                      by_cases c49 : t260 = 1
                      · rw [if_pos c49] at H
                        have c49b0 : (t260 == 1) = true := beq_iff_eq.mpr c49
                        have c49b1 : (t260 != 1) = false := bne_eq_false_iff_eq.mpr c49
                        clear c49
                        by_cases c50 : t256 = 1
                        · rw [if_pos c50] at H
                          have c50b0 : (t256 == 1) = true := beq_iff_eq.mpr c50
                          have c50b1 : (t256 != 1) = false := bne_eq_false_iff_eq.mpr c50
                          clear c50
                          by_cases c51 : (t255.length : Int) = 0
                          · rw [if_pos c51] at H
                            have c51b0 : ((t255.length : Int) == 0) = true := beq_iff_eq.mpr c51
                            have c51b1 : ((t255.length : Int) != 0) = false := bne_eq_false_iff_eq.mpr c51
                            clear c51
                            replace H := Option.bind_eq_some_iff.mp H
                            obtain ⟨t261, A520, H⟩ := H
                            replace H : (some t261) = some r := H
                            have A52 := Aside0.mk A520
                            clear A520
                            obtain rfl := Option.some.inj H
                            obtain ⟨Ao53, co53, eo53⟩ := Kd.R_slice HO_10.out
                            subst eo53
                            go_wp2_with (first | ((with_reducible refine gate_callee (f := 18) rfl ?_); refine goesL_ (some 74) rfl rfl Try.func18 (by kernel_rfl) rfl #[.slice Ao53 x10_15.length co53] rfl (by (try simp only [List.map_toArray, List.map_cons, List.map_nil]); first | done | rfl | (simp only [List.length_drop, List.length_take]; rfl)) ?_; (with_reducible refine (match_Expand.calls kj15 _ _ x10_15 t255 t256 _ ?side1 ?side2 A45.out).mono ?_); (case side1 => repeat (first | exact (Kd.R_reads' HO_10.out).2.2 | (with_reducible refine Kd.C_alloc ?_ _) | (with_reducible refine Kd.C_drewN ?_ _) | (with_reducible refine Kd.C_drew ?_))); (case side2 => exact (Kd.R_reads' HO_10.out).2.1); rintro e w54 ⟨v257, rfl, ho0, hb⟩; refine ⟨_, rfl, ?_⟩; have n0_ := Aside0.mk (Kd.R_below (by (with_reducible repeat (first | apply Kd.R_alloc | apply Kd.R_drewN | apply Kd.R_drew)); exact HO_7.out) hb); have n1_ := Aside0.mk (Kd.R_below (by (with_reducible repeat (first | apply Kd.R_alloc | apply Kd.R_drewN | apply Kd.R_drew)); exact HO_10.out) hb); have n2_ := Aside0.mk (Kd.R_lower ho0 (below_size (by repeat (first | (with_reducible first | exact HB.out | apply below_alloc | apply pw_below_drewN | apply below_drew1) | exact HB.out)))); have n3_ := Aside0.mk (below_step (by repeat (first | (with_reducible first | exact HB.out | apply below_alloc | apply pw_below_drewN | apply below_drew1) | exact HB.out)) hb); clear HO_7; clear HO_10; clear HB; have HO_7 := n0_; have HO_10 := n1_; have HO258 := n2_; have HB := n3_; clear n0_ n1_ n2_ n3_; (try clear hb); (try clear hb2); (try clear hk); (try clear hi); (try clear ho0)) | ((with_reducible refine gate_callee (f := 22) rfl ?_); refine goesL_ (some 78) rfl rfl Try.func22 (by kernel_rfl) rfl #[.slice Ao10 t244.length co10] rfl (by (try simp only [List.map_toArray, List.map_cons, List.map_nil]); first | done | rfl | (simp only [List.length_drop, List.length_take]; rfl)) ?_; (with_reducible refine (match_Check.calls kj15 _ _ t244 t259 _ ?side1 ?side2 A46.out).mono ?_); (case side1 => repeat (first | exact (Kd.R_reads' HO_7.out).2.2 | (with_reducible refine Kd.C_alloc ?_ _) | (with_reducible refine Kd.C_drewN ?_ _) | (with_reducible refine Kd.C_drew ?_))); (case side2 => exact (Kd.R_reads' HO_7.out).2.1); rintro e w55 ⟨rfl, hb⟩; refine ⟨_, rfl, ?_⟩; have n0_ := Aside0.mk (Kd.R_below (by (with_reducible repeat (first | apply Kd.R_alloc | apply Kd.R_drewN | apply Kd.R_drew)); exact HO_7.out) hb); have n1_ := Aside0.mk (Kd.R_below (by (with_reducible repeat (first | apply Kd.R_alloc | apply Kd.R_drewN | apply Kd.R_drew)); exact HO_10.out) hb); have n2_ := Aside0.mk (Kd.R_below (by (with_reducible repeat (first | apply Kd.R_alloc | apply Kd.R_drewN | apply Kd.R_drew)); exact HO258.out) hb); have n3_ := Aside0.mk (below_step (by repeat (first | (with_reducible first | exact HB.out | apply below_alloc | apply pw_below_drewN | apply below_drew1) | exact HB.out)) hb); clear HO_7; clear HO_10; clear HO258; clear HB; have HO_7 := n0_; have HO_10 := n1_; have HO258 := n2_; have HB := n3_; clear n0_ n1_ n2_ n3_; (try clear hb); (try clear hb2); (try clear hk); (try clear hi)) | (go_at_call 22; (with_reducible refine (match_Check.calls kj15 _ _ x10_15 t260 _ ?side1 ?side2 A48.out).mono ?_); (case side1 => repeat (first | exact (Kd.R_reads' HO_10.out).2.2 | (with_reducible refine Kd.C_alloc ?_ _) | (with_reducible refine Kd.C_drewN ?_ _) | (with_reducible refine Kd.C_drew ?_))); (case side2 => exact (Kd.R_reads' HO_10.out).2.1); rintro e w56 ⟨rfl, hb⟩; have n0_ := Aside0.mk (Kd.R_below (by (with_reducible repeat (first | apply Kd.R_alloc | apply Kd.R_drewN | apply Kd.R_drew)); exact HO_7.out) hb); have n1_ := Aside0.mk (Kd.R_below (by (with_reducible repeat (first | apply Kd.R_alloc | apply Kd.R_drewN | apply Kd.R_drew)); exact HO_10.out) hb); have n2_ := Aside0.mk (Kd.R_below (by (with_reducible repeat (first | apply Kd.R_alloc | apply Kd.R_drewN | apply Kd.R_drew)); exact HO258.out) hb); have n3_ := Aside0.mk (below_step (by repeat (first | (with_reducible first | exact HB.out | apply below_alloc | apply pw_below_drewN | apply below_drew1) | exact HB.out)) hb); clear HO_7; clear HO_10; clear HO258; clear HB; have HO_7 := n0_; have HO_10 := n1_; have HO258 := n2_; have HB := n3_; clear n0_ n1_ n2_ n3_; (try clear hb); (try clear hb2); (try clear hk); (try clear hi); obtain ⟨Ao57, co57, eo57⟩ := Kd.R_slice HO258.out; subst eo57) | (go_at_call 25; (with_reducible refine (wherrylaw04_wakes.calls  t261 _ A52.out).mono ?_); rintro e w58 ⟨rfl, hb⟩; have n0_ := Aside0.mk (Kd.R_below (by (with_reducible repeat (first | apply Kd.R_alloc | apply Kd.R_drewN | apply Kd.R_drew)); exact HO_7.out) hb); have n1_ := Aside0.mk (Kd.R_below (by (with_reducible repeat (first | apply Kd.R_alloc | apply Kd.R_drewN | apply Kd.R_drew)); exact HO_10.out) hb); have n2_ := Aside0.mk (Kd.R_below (by (with_reducible repeat (first | apply Kd.R_alloc | apply Kd.R_drewN | apply Kd.R_drew)); exact HO258.out) hb); have n3_ := Aside0.mk (below_step (by repeat (first | (with_reducible first | exact HB.out | apply below_alloc | apply pw_below_drewN | apply below_drew1) | exact HB.out)) hb); clear HO_7; clear HO_10; clear HO258; clear HB; have HO_7 := n0_; have HO_10 := n1_; have HO258 := n2_; have HB := n3_; clear n0_ n1_ n2_ n3_; (try clear hb); (try clear hb2); (try clear hk); (try clear hi)))
                            go_ret
                            exact ⟨by first | rfl | (simp [errW_none, errW_some] <;> rfl) | (simp [*, errW_none, errW_some] <;> rfl), by repeat (first | (with_reducible first | exact HB.out | apply below_alloc | apply pw_below_drewN | apply below_drew1) | exact HB.out)⟩
                          · rw [if_neg c51] at H
                            have c51b0 : ((t255.length : Int) == 0) = false := beq_eq_false_iff_ne.mpr c51
                            have c51b1 : ((t255.length : Int) != 0) = true := bne_iff_ne.mpr c51
                            have c51b2 : ¬ (t255 = []) := fun h_ => c51 (by rw [h_]; rfl)
                            obtain rfl := Option.some.inj H
                            obtain ⟨Ao59, co59, eo59⟩ := Kd.R_slice HO_10.out
                            subst eo59
                            go_wp2_with (first | ((with_reducible refine gate_callee (f := 18) rfl ?_); refine goesL_ (some 74) rfl rfl Try.func18 (by kernel_rfl) rfl #[.slice Ao59 x10_15.length co59] rfl (by (try simp only [List.map_toArray, List.map_cons, List.map_nil]); first | done | rfl | (simp only [List.length_drop, List.length_take]; rfl)) ?_; (with_reducible refine (match_Expand.calls kj15 _ _ x10_15 t255 t256 _ ?side1 ?side2 A45.out).mono ?_); (case side1 => repeat (first | exact (Kd.R_reads' HO_10.out).2.2 | (with_reducible refine Kd.C_alloc ?_ _) | (with_reducible refine Kd.C_drewN ?_ _) | (with_reducible refine Kd.C_drew ?_))); (case side2 => exact (Kd.R_reads' HO_10.out).2.1); rintro e w60 ⟨v257, rfl, ho0, hb⟩; refine ⟨_, rfl, ?_⟩; have n0_ := Aside0.mk (Kd.R_below (by (with_reducible repeat (first | apply Kd.R_alloc | apply Kd.R_drewN | apply Kd.R_drew)); exact HO_7.out) hb); have n1_ := Aside0.mk (Kd.R_below (by (with_reducible repeat (first | apply Kd.R_alloc | apply Kd.R_drewN | apply Kd.R_drew)); exact HO_10.out) hb); have n2_ := Aside0.mk (Kd.R_lower ho0 (below_size (by repeat (first | (with_reducible first | exact HB.out | apply below_alloc | apply pw_below_drewN | apply below_drew1) | exact HB.out)))); have n3_ := Aside0.mk (below_step (by repeat (first | (with_reducible first | exact HB.out | apply below_alloc | apply pw_below_drewN | apply below_drew1) | exact HB.out)) hb); clear HO_7; clear HO_10; clear HB; have HO_7 := n0_; have HO_10 := n1_; have HO258 := n2_; have HB := n3_; clear n0_ n1_ n2_ n3_; (try clear hb); (try clear hb2); (try clear hk); (try clear hi); (try clear ho0)) | ((with_reducible refine gate_callee (f := 22) rfl ?_); refine goesL_ (some 78) rfl rfl Try.func22 (by kernel_rfl) rfl #[.slice Ao10 t244.length co10] rfl (by (try simp only [List.map_toArray, List.map_cons, List.map_nil]); first | done | rfl | (simp only [List.length_drop, List.length_take]; rfl)) ?_; (with_reducible refine (match_Check.calls kj15 _ _ t244 t259 _ ?side1 ?side2 A46.out).mono ?_); (case side1 => repeat (first | exact (Kd.R_reads' HO_7.out).2.2 | (with_reducible refine Kd.C_alloc ?_ _) | (with_reducible refine Kd.C_drewN ?_ _) | (with_reducible refine Kd.C_drew ?_))); (case side2 => exact (Kd.R_reads' HO_7.out).2.1); rintro e w61 ⟨rfl, hb⟩; refine ⟨_, rfl, ?_⟩; have n0_ := Aside0.mk (Kd.R_below (by (with_reducible repeat (first | apply Kd.R_alloc | apply Kd.R_drewN | apply Kd.R_drew)); exact HO_7.out) hb); have n1_ := Aside0.mk (Kd.R_below (by (with_reducible repeat (first | apply Kd.R_alloc | apply Kd.R_drewN | apply Kd.R_drew)); exact HO_10.out) hb); have n2_ := Aside0.mk (Kd.R_below (by (with_reducible repeat (first | apply Kd.R_alloc | apply Kd.R_drewN | apply Kd.R_drew)); exact HO258.out) hb); have n3_ := Aside0.mk (below_step (by repeat (first | (with_reducible first | exact HB.out | apply below_alloc | apply pw_below_drewN | apply below_drew1) | exact HB.out)) hb); clear HO_7; clear HO_10; clear HO258; clear HB; have HO_7 := n0_; have HO_10 := n1_; have HO258 := n2_; have HB := n3_; clear n0_ n1_ n2_ n3_; (try clear hb); (try clear hb2); (try clear hk); (try clear hi)) | (go_at_call 22; (with_reducible refine (match_Check.calls kj15 _ _ x10_15 t260 _ ?side1 ?side2 A48.out).mono ?_); (case side1 => repeat (first | exact (Kd.R_reads' HO_10.out).2.2 | (with_reducible refine Kd.C_alloc ?_ _) | (with_reducible refine Kd.C_drewN ?_ _) | (with_reducible refine Kd.C_drew ?_))); (case side2 => exact (Kd.R_reads' HO_10.out).2.1); rintro e w62 ⟨rfl, hb⟩; have n0_ := Aside0.mk (Kd.R_below (by (with_reducible repeat (first | apply Kd.R_alloc | apply Kd.R_drewN | apply Kd.R_drew)); exact HO_7.out) hb); have n1_ := Aside0.mk (Kd.R_below (by (with_reducible repeat (first | apply Kd.R_alloc | apply Kd.R_drewN | apply Kd.R_drew)); exact HO_10.out) hb); have n2_ := Aside0.mk (Kd.R_below (by (with_reducible repeat (first | apply Kd.R_alloc | apply Kd.R_drewN | apply Kd.R_drew)); exact HO258.out) hb); have n3_ := Aside0.mk (below_step (by repeat (first | (with_reducible first | exact HB.out | apply below_alloc | apply pw_below_drewN | apply below_drew1) | exact HB.out)) hb); clear HO_7; clear HO_10; clear HO258; clear HB; have HO_7 := n0_; have HO_10 := n1_; have HO258 := n2_; have HB := n3_; clear n0_ n1_ n2_ n3_; (try clear hb); (try clear hb2); (try clear hk); (try clear hi); obtain ⟨Ao63, co63, eo63⟩ := Kd.R_slice HO258.out; subst eo63))
                            go_ret
                            exact ⟨by first | rfl | (simp [errW_none, errW_some] <;> rfl) | (simp [*, errW_none, errW_some] <;> rfl), by repeat (first | (with_reducible first | exact HB.out | apply below_alloc | apply pw_below_drewN | apply below_drew1) | exact HB.out)⟩
                        · rw [if_neg c50] at H
                          have c50b0 : (t256 == 1) = false := beq_eq_false_iff_ne.mpr c50
                          have c50b1 : (t256 != 1) = true := bne_iff_ne.mpr c50
                          obtain rfl := Option.some.inj H
                          obtain ⟨Ao64, co64, eo64⟩ := Kd.R_slice HO_10.out
                          subst eo64
                          go_wp2_with (first | ((with_reducible refine gate_callee (f := 18) rfl ?_); refine goesL_ (some 74) rfl rfl Try.func18 (by kernel_rfl) rfl #[.slice Ao64 x10_15.length co64] rfl (by (try simp only [List.map_toArray, List.map_cons, List.map_nil]); first | done | rfl | (simp only [List.length_drop, List.length_take]; rfl)) ?_; (with_reducible refine (match_Expand.calls kj15 _ _ x10_15 t255 t256 _ ?side1 ?side2 A45.out).mono ?_); (case side1 => repeat (first | exact (Kd.R_reads' HO_10.out).2.2 | (with_reducible refine Kd.C_alloc ?_ _) | (with_reducible refine Kd.C_drewN ?_ _) | (with_reducible refine Kd.C_drew ?_))); (case side2 => exact (Kd.R_reads' HO_10.out).2.1); rintro e w65 ⟨v257, rfl, ho0, hb⟩; refine ⟨_, rfl, ?_⟩; have n0_ := Aside0.mk (Kd.R_below (by (with_reducible repeat (first | apply Kd.R_alloc | apply Kd.R_drewN | apply Kd.R_drew)); exact HO_7.out) hb); have n1_ := Aside0.mk (Kd.R_below (by (with_reducible repeat (first | apply Kd.R_alloc | apply Kd.R_drewN | apply Kd.R_drew)); exact HO_10.out) hb); have n2_ := Aside0.mk (Kd.R_lower ho0 (below_size (by repeat (first | (with_reducible first | exact HB.out | apply below_alloc | apply pw_below_drewN | apply below_drew1) | exact HB.out)))); have n3_ := Aside0.mk (below_step (by repeat (first | (with_reducible first | exact HB.out | apply below_alloc | apply pw_below_drewN | apply below_drew1) | exact HB.out)) hb); clear HO_7; clear HO_10; clear HB; have HO_7 := n0_; have HO_10 := n1_; have HO258 := n2_; have HB := n3_; clear n0_ n1_ n2_ n3_; (try clear hb); (try clear hb2); (try clear hk); (try clear hi); (try clear ho0)) | ((with_reducible refine gate_callee (f := 22) rfl ?_); refine goesL_ (some 78) rfl rfl Try.func22 (by kernel_rfl) rfl #[.slice Ao10 t244.length co10] rfl (by (try simp only [List.map_toArray, List.map_cons, List.map_nil]); first | done | rfl | (simp only [List.length_drop, List.length_take]; rfl)) ?_; (with_reducible refine (match_Check.calls kj15 _ _ t244 t259 _ ?side1 ?side2 A46.out).mono ?_); (case side1 => repeat (first | exact (Kd.R_reads' HO_7.out).2.2 | (with_reducible refine Kd.C_alloc ?_ _) | (with_reducible refine Kd.C_drewN ?_ _) | (with_reducible refine Kd.C_drew ?_))); (case side2 => exact (Kd.R_reads' HO_7.out).2.1); rintro e w66 ⟨rfl, hb⟩; refine ⟨_, rfl, ?_⟩; have n0_ := Aside0.mk (Kd.R_below (by (with_reducible repeat (first | apply Kd.R_alloc | apply Kd.R_drewN | apply Kd.R_drew)); exact HO_7.out) hb); have n1_ := Aside0.mk (Kd.R_below (by (with_reducible repeat (first | apply Kd.R_alloc | apply Kd.R_drewN | apply Kd.R_drew)); exact HO_10.out) hb); have n2_ := Aside0.mk (Kd.R_below (by (with_reducible repeat (first | apply Kd.R_alloc | apply Kd.R_drewN | apply Kd.R_drew)); exact HO258.out) hb); have n3_ := Aside0.mk (below_step (by repeat (first | (with_reducible first | exact HB.out | apply below_alloc | apply pw_below_drewN | apply below_drew1) | exact HB.out)) hb); clear HO_7; clear HO_10; clear HO258; clear HB; have HO_7 := n0_; have HO_10 := n1_; have HO258 := n2_; have HB := n3_; clear n0_ n1_ n2_ n3_; (try clear hb); (try clear hb2); (try clear hk); (try clear hi)) | (go_at_call 22; (with_reducible refine (match_Check.calls kj15 _ _ x10_15 t260 _ ?side1 ?side2 A48.out).mono ?_); (case side1 => repeat (first | exact (Kd.R_reads' HO_10.out).2.2 | (with_reducible refine Kd.C_alloc ?_ _) | (with_reducible refine Kd.C_drewN ?_ _) | (with_reducible refine Kd.C_drew ?_))); (case side2 => exact (Kd.R_reads' HO_10.out).2.1); rintro e w67 ⟨rfl, hb⟩; have n0_ := Aside0.mk (Kd.R_below (by (with_reducible repeat (first | apply Kd.R_alloc | apply Kd.R_drewN | apply Kd.R_drew)); exact HO_7.out) hb); have n1_ := Aside0.mk (Kd.R_below (by (with_reducible repeat (first | apply Kd.R_alloc | apply Kd.R_drewN | apply Kd.R_drew)); exact HO_10.out) hb); have n2_ := Aside0.mk (Kd.R_below (by (with_reducible repeat (first | apply Kd.R_alloc | apply Kd.R_drewN | apply Kd.R_drew)); exact HO258.out) hb); have n3_ := Aside0.mk (below_step (by repeat (first | (with_reducible first | exact HB.out | apply below_alloc | apply pw_below_drewN | apply below_drew1) | exact HB.out)) hb); clear HO_7; clear HO_10; clear HO258; clear HB; have HO_7 := n0_; have HO_10 := n1_; have HO258 := n2_; have HB := n3_; clear n0_ n1_ n2_ n3_; (try clear hb); (try clear hb2); (try clear hk); (try clear hi)))
                          go_ret
                          exact ⟨by first | rfl | (simp [errW_none, errW_some] <;> rfl) | (simp [*, errW_none, errW_some] <;> rfl), by repeat (first | (with_reducible first | exact HB.out | apply below_alloc | apply pw_below_drewN | apply below_drew1) | exact HB.out)⟩
                      · rw [if_neg c49] at H
                        have c49b0 : (t260 == 1) = false := beq_eq_false_iff_ne.mpr c49
                        have c49b1 : (t260 != 1) = true := bne_iff_ne.mpr c49
                        obtain rfl := Option.some.inj H
                        obtain ⟨Ao68, co68, eo68⟩ := Kd.R_slice HO_10.out
                        subst eo68
                        go_wp2_with (first | ((with_reducible refine gate_callee (f := 18) rfl ?_); refine goesL_ (some 74) rfl rfl Try.func18 (by kernel_rfl) rfl #[.slice Ao68 x10_15.length co68] rfl (by (try simp only [List.map_toArray, List.map_cons, List.map_nil]); first | done | rfl | (simp only [List.length_drop, List.length_take]; rfl)) ?_; (with_reducible refine (match_Expand.calls kj15 _ _ x10_15 t255 t256 _ ?side1 ?side2 A45.out).mono ?_); (case side1 => repeat (first | exact (Kd.R_reads' HO_10.out).2.2 | (with_reducible refine Kd.C_alloc ?_ _) | (with_reducible refine Kd.C_drewN ?_ _) | (with_reducible refine Kd.C_drew ?_))); (case side2 => exact (Kd.R_reads' HO_10.out).2.1); rintro e w69 ⟨v257, rfl, ho0, hb⟩; refine ⟨_, rfl, ?_⟩; have n0_ := Aside0.mk (Kd.R_below (by (with_reducible repeat (first | apply Kd.R_alloc | apply Kd.R_drewN | apply Kd.R_drew)); exact HO_7.out) hb); have n1_ := Aside0.mk (Kd.R_below (by (with_reducible repeat (first | apply Kd.R_alloc | apply Kd.R_drewN | apply Kd.R_drew)); exact HO_10.out) hb); have n2_ := Aside0.mk (Kd.R_lower ho0 (below_size (by repeat (first | (with_reducible first | exact HB.out | apply below_alloc | apply pw_below_drewN | apply below_drew1) | exact HB.out)))); have n3_ := Aside0.mk (below_step (by repeat (first | (with_reducible first | exact HB.out | apply below_alloc | apply pw_below_drewN | apply below_drew1) | exact HB.out)) hb); clear HO_7; clear HO_10; clear HB; have HO_7 := n0_; have HO_10 := n1_; have HO258 := n2_; have HB := n3_; clear n0_ n1_ n2_ n3_; (try clear hb); (try clear hb2); (try clear hk); (try clear hi); (try clear ho0)) | ((with_reducible refine gate_callee (f := 22) rfl ?_); refine goesL_ (some 78) rfl rfl Try.func22 (by kernel_rfl) rfl #[.slice Ao10 t244.length co10] rfl (by (try simp only [List.map_toArray, List.map_cons, List.map_nil]); first | done | rfl | (simp only [List.length_drop, List.length_take]; rfl)) ?_; (with_reducible refine (match_Check.calls kj15 _ _ t244 t259 _ ?side1 ?side2 A46.out).mono ?_); (case side1 => repeat (first | exact (Kd.R_reads' HO_7.out).2.2 | (with_reducible refine Kd.C_alloc ?_ _) | (with_reducible refine Kd.C_drewN ?_ _) | (with_reducible refine Kd.C_drew ?_))); (case side2 => exact (Kd.R_reads' HO_7.out).2.1); rintro e w70 ⟨rfl, hb⟩; refine ⟨_, rfl, ?_⟩; have n0_ := Aside0.mk (Kd.R_below (by (with_reducible repeat (first | apply Kd.R_alloc | apply Kd.R_drewN | apply Kd.R_drew)); exact HO_7.out) hb); have n1_ := Aside0.mk (Kd.R_below (by (with_reducible repeat (first | apply Kd.R_alloc | apply Kd.R_drewN | apply Kd.R_drew)); exact HO_10.out) hb); have n2_ := Aside0.mk (Kd.R_below (by (with_reducible repeat (first | apply Kd.R_alloc | apply Kd.R_drewN | apply Kd.R_drew)); exact HO258.out) hb); have n3_ := Aside0.mk (below_step (by repeat (first | (with_reducible first | exact HB.out | apply below_alloc | apply pw_below_drewN | apply below_drew1) | exact HB.out)) hb); clear HO_7; clear HO_10; clear HO258; clear HB; have HO_7 := n0_; have HO_10 := n1_; have HO258 := n2_; have HB := n3_; clear n0_ n1_ n2_ n3_; (try clear hb); (try clear hb2); (try clear hk); (try clear hi)) | (go_at_call 22; (with_reducible refine (match_Check.calls kj15 _ _ x10_15 t260 _ ?side1 ?side2 A48.out).mono ?_); (case side1 => repeat (first | exact (Kd.R_reads' HO_10.out).2.2 | (with_reducible refine Kd.C_alloc ?_ _) | (with_reducible refine Kd.C_drewN ?_ _) | (with_reducible refine Kd.C_drew ?_))); (case side2 => exact (Kd.R_reads' HO_10.out).2.1); rintro e w71 ⟨rfl, hb⟩; have n0_ := Aside0.mk (Kd.R_below (by (with_reducible repeat (first | apply Kd.R_alloc | apply Kd.R_drewN | apply Kd.R_drew)); exact HO_7.out) hb); have n1_ := Aside0.mk (Kd.R_below (by (with_reducible repeat (first | apply Kd.R_alloc | apply Kd.R_drewN | apply Kd.R_drew)); exact HO_10.out) hb); have n2_ := Aside0.mk (Kd.R_below (by (with_reducible repeat (first | apply Kd.R_alloc | apply Kd.R_drewN | apply Kd.R_drew)); exact HO258.out) hb); have n3_ := Aside0.mk (below_step (by repeat (first | (with_reducible first | exact HB.out | apply below_alloc | apply pw_below_drewN | apply below_drew1) | exact HB.out)) hb); clear HO_7; clear HO_10; clear HO258; clear HB; have HO_7 := n0_; have HO_10 := n1_; have HO258 := n2_; have HB := n3_; clear n0_ n1_ n2_ n3_; (try clear hb); (try clear hb2); (try clear hk); (try clear hi)))
                        go_ret
                        exact ⟨by first | rfl | (simp [errW_none, errW_some] <;> rfl) | (simp [*, errW_none, errW_some] <;> rfl), by repeat (first | (with_reducible first | exact HB.out | apply below_alloc | apply pw_below_drewN | apply below_drew1) | exact HB.out)⟩
                    · rw [if_neg c47] at H
                      have c47b0 : (t259 == 0) = false := beq_eq_false_iff_ne.mpr c47
                      have c47b1 : (t259 != 0) = true := bne_iff_ne.mpr c47
                      obtain rfl := Option.some.inj H
                      obtain ⟨Ao72, co72, eo72⟩ := Kd.R_slice HO_10.out
                      subst eo72
                      go_wp2_with (first | ((with_reducible refine gate_callee (f := 18) rfl ?_); refine goesL_ (some 74) rfl rfl Try.func18 (by kernel_rfl) rfl #[.slice Ao72 x10_15.length co72] rfl (by (try simp only [List.map_toArray, List.map_cons, List.map_nil]); first | done | rfl | (simp only [List.length_drop, List.length_take]; rfl)) ?_; (with_reducible refine (match_Expand.calls kj15 _ _ x10_15 t255 t256 _ ?side1 ?side2 A45.out).mono ?_); (case side1 => repeat (first | exact (Kd.R_reads' HO_10.out).2.2 | (with_reducible refine Kd.C_alloc ?_ _) | (with_reducible refine Kd.C_drewN ?_ _) | (with_reducible refine Kd.C_drew ?_))); (case side2 => exact (Kd.R_reads' HO_10.out).2.1); rintro e w73 ⟨v257, rfl, ho0, hb⟩; refine ⟨_, rfl, ?_⟩; have n0_ := Aside0.mk (Kd.R_below (by (with_reducible repeat (first | apply Kd.R_alloc | apply Kd.R_drewN | apply Kd.R_drew)); exact HO_7.out) hb); have n1_ := Aside0.mk (Kd.R_below (by (with_reducible repeat (first | apply Kd.R_alloc | apply Kd.R_drewN | apply Kd.R_drew)); exact HO_10.out) hb); have n2_ := Aside0.mk (Kd.R_lower ho0 (below_size (by repeat (first | (with_reducible first | exact HB.out | apply below_alloc | apply pw_below_drewN | apply below_drew1) | exact HB.out)))); have n3_ := Aside0.mk (below_step (by repeat (first | (with_reducible first | exact HB.out | apply below_alloc | apply pw_below_drewN | apply below_drew1) | exact HB.out)) hb); clear HO_7; clear HO_10; clear HB; have HO_7 := n0_; have HO_10 := n1_; have HO258 := n2_; have HB := n3_; clear n0_ n1_ n2_ n3_; (try clear hb); (try clear hb2); (try clear hk); (try clear hi); (try clear ho0)) | ((with_reducible refine gate_callee (f := 22) rfl ?_); refine goesL_ (some 78) rfl rfl Try.func22 (by kernel_rfl) rfl #[.slice Ao10 t244.length co10] rfl (by (try simp only [List.map_toArray, List.map_cons, List.map_nil]); first | done | rfl | (simp only [List.length_drop, List.length_take]; rfl)) ?_; (with_reducible refine (match_Check.calls kj15 _ _ t244 t259 _ ?side1 ?side2 A46.out).mono ?_); (case side1 => repeat (first | exact (Kd.R_reads' HO_7.out).2.2 | (with_reducible refine Kd.C_alloc ?_ _) | (with_reducible refine Kd.C_drewN ?_ _) | (with_reducible refine Kd.C_drew ?_))); (case side2 => exact (Kd.R_reads' HO_7.out).2.1); rintro e w74 ⟨rfl, hb⟩; refine ⟨_, rfl, ?_⟩; have n0_ := Aside0.mk (Kd.R_below (by (with_reducible repeat (first | apply Kd.R_alloc | apply Kd.R_drewN | apply Kd.R_drew)); exact HO_7.out) hb); have n1_ := Aside0.mk (Kd.R_below (by (with_reducible repeat (first | apply Kd.R_alloc | apply Kd.R_drewN | apply Kd.R_drew)); exact HO_10.out) hb); have n2_ := Aside0.mk (Kd.R_below (by (with_reducible repeat (first | apply Kd.R_alloc | apply Kd.R_drewN | apply Kd.R_drew)); exact HO258.out) hb); have n3_ := Aside0.mk (below_step (by repeat (first | (with_reducible first | exact HB.out | apply below_alloc | apply pw_below_drewN | apply below_drew1) | exact HB.out)) hb); clear HO_7; clear HO_10; clear HO258; clear HB; have HO_7 := n0_; have HO_10 := n1_; have HO258 := n2_; have HB := n3_; clear n0_ n1_ n2_ n3_; (try clear hb); (try clear hb2); (try clear hk); (try clear hi)))
                      go_ret
                      exact ⟨by first | rfl | (simp [errW_none, errW_some] <;> rfl) | (simp [*, errW_none, errW_some] <;> rfl), by repeat (first | (with_reducible first | exact HB.out | apply below_alloc | apply pw_below_drewN | apply below_drew1) | exact HB.out)⟩

/-- THE ONE PURE STATEMENT of wherrylaw04_MatchBent: yours. -/
def wherrylaw04_MatchBent.Pure : Prop := ∀ (l0 : List Int) (a1 : Int) (a2 : Int), l0.length ≤ maxLen → l0.length * 1 ≤ 140737488351232 → (∀ x ∈ l0, (Lit.int .u8 x).wf = true) → (Lit.int .i64 a1).wf = true → (Lit.int .i64 a2).wf = true → ∃ k, wherrylaw04_MatchBent.f k l0 a1 a2 = some true
theorem wherrylaw04_MatchBent.walk (P : wherrylaw04_MatchBent.Pure) (a0 : Option Addr) (len0 cap0 : Nat) (z0 : List Int) (a1 : Int) (a2 : Int) (w : World) (w0 : (a0 = none ∧ len0 = 0 ∧ cap0 = 0 ∧ z0 = []) ∨ ∃ x, a0 = some x ∧ len0 ≤ cap0 ∧ cap0 ≤ maxLen ∧ z0.length = cap0 ∧ (∀ i, i < z0.length → w.cell? (x.add i) = some (.int .u8 (z0.getD i 0))) ∧ ∀ n ∈ z0, (Lit.int .u8 n).wf = true) (y0 : len0 * 1 ≤ 140737488351232) (w1 : (Lit.int .i64 a1).wf = true) (w2 : (Lit.int .i64 a2).wf = true) :
    Calls Try.prog 7 #[.slice a0 len0 cap0, .int .i64 a1, .int .i64 a2] w fun e w' => e = .returned (.bool true) ∧ Below w.heap.size w w' := by
  obtain ⟨l0, rfl, hr0, hm0, hw0, hc0⟩ := ReadsInt.ofRowC w0
  obtain ⟨k, h⟩ := P l0 a1 a2 hm0 y0 hw0 w1 w2
  refine (wherrylaw04_MatchBent.calls k _ _ l0 a1 a2 true w (Kd.C_of_reads (d := (0 : Int)) (h1 := fun _ => rfl) hr0) hc0 h).mono ?_
  rintro e w' ⟨rfl, hd⟩
  exact ⟨rfl, hd⟩

-- PART
end Go.Proofs.Ytagdlmlanjjecaa.P
