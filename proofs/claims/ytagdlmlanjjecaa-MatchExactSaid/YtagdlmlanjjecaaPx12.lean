-- Written by a program of this session out of the translation. Lean checks it.
import Derived.Test.YtagdlmlanjjecaaPx0
import Derived.Test.YtagdlmlanjjecaaPx1
import Derived.Test.YtagdlmlanjjecaaPx5
import Derived.Test.YtagdlmlanjjecaaPx6
import Derived.Test.YtagdlmlanjjecaaPx7
import Derived.Test.YtagdlmlanjjecaaPx8
import Derived.Test.YtagdlmlanjjecaaPx9
import Derived.Test.YtagdlmlanjjecaaPx10
import Derived.Test.YtagdlmlanjjecaaPx11
namespace Go.Proofs.Ytagdlmlanjjecaa.P
open Go.RowKit Go.Proofs.YtagdlmlanjjecaaW.PrintWords Go.Proofs.YtagdlmlanjjecaaW.PrintLast Go.Proofs.YtagdlmlanjjecaaW.PrintMore
attribute [local go_sem] max2_int min2_int max_two min_two max_three min_three max_four min_four   -- for this text's walks alone
set_option linter.unusedVariables false
set_option linter.unusedSimpArgs false

-- PART
/-! ### wherrylaw04_MatchExact: function 3 -/
mutual
def wherrylaw04_MatchExact.j0 : Nat → List Int → Int → List (S40) → Bool → Option (Bool)
  | 0, _, _, _, _ => none
  | k + 1, x0, x1, x2, x28 => if x28 = true then (some true) else ((wherrykeep_Twin.f x0).bind fun t169 => ((wherrykeep_TwinToks.f x2).bind fun t172 => ((match_Tokens.f t169).bind fun bt175 => ((wherryref01_Tokens.f k x0).bind fun bt179 => ((match_Best.f t169 x1).bind fun bt183 => ((wherryref01_Best.f k x0 x1).bind fun bt185 => ((match_Expand.f k t172).bind fun bt187 => ((wherryref01_Expand.f k x2).bind fun bt191 => (if bt175.2 = bt179.2 then ((wherrykeep_Toks.f k bt175.1 bt179.1).bind fun t195 => (if t195 = true then (if bt183.1 = bt185.1 then (if bt183.2 = bt185.2 then (if bt187.2 = bt191.2 then ((wherrykeep_Bytes.f k bt187.1 bt191.1).bind fun t196 => (if t196 = true then ((match_Check.f k t172).bind fun t197 => ((wherryref01_CheckToks.f k x2).bind fun t198 => (wherrylaw04_MatchExact.j1 k x0 x2 t169 t172 bt187.1 (t197 != t198)))) else (wherrylaw04_MatchExact.j1 k x0 x2 t169 t172 bt187.1 true))) else (wherrylaw04_MatchExact.j1 k x0 x2 t169 t172 bt187.1 true)) else (wherrylaw04_MatchExact.j1 k x0 x2 t169 t172 bt187.1 true)) else (wherrylaw04_MatchExact.j1 k x0 x2 t169 t172 bt187.1 true)) else (wherrylaw04_MatchExact.j1 k x0 x2 t169 t172 bt187.1 true))) else (wherrylaw04_MatchExact.j1 k x0 x2 t169 t172 bt187.1 true))))))))))
def wherrylaw04_MatchExact.j1 : Nat → List Int → List (S40) → List Int → List (S40) → List Int → Bool → Option (Bool)
  | 0, _, _, _, _, _, _ => none
  | k + 1, x0, x2, x7, x8, x17, x101 => if x101 = true then (some false) else ((wherrykeep_Over.f k x17).bind fun t199 => ((wherrykeep_Bytes.f k x7 x0).bind fun t200 => (if t200 = true then ((wherrykeep_Toks.f k x8 x2).bind fun t201 => (if t201 = true then ((wherrylaw04_wakes.f).bind fun t202 => (some t202)) else (some false))) else (some false))))
end
def wherrylaw04_MatchExact.f (k : Nat) (l0 : List Int) (a1 : Int) (l2 : List (S40)) : Option (Bool) := if (l0.length : Int) > 1200 then (wherrylaw04_MatchExact.j0 k l0 a1 l2 true) else (wherrylaw04_MatchExact.j0 k l0 a1 l2 (decide ((l2.length : Int) > 600)))
theorem wherrylaw04_MatchExact.mono_l : ∀ k, (∀ y0 y1 y2 y3, LeO (wherrylaw04_MatchExact.j0 k y0 y1 y2 y3) (wherrylaw04_MatchExact.j0 (k + 1) y0 y1 y2 y3)) ∧ (∀ y0 y1 y2 y3 y4 y5, LeO (wherrylaw04_MatchExact.j1 k y0 y1 y2 y3 y4 y5) (wherrylaw04_MatchExact.j1 (k + 1) y0 y1 y2 y3 y4 y5))
  | 0 => ⟨fun _ _ _ _ r h => by simp [wherrylaw04_MatchExact.j0] at h, fun _ _ _ _ _ _ r h => by simp [wherrylaw04_MatchExact.j1] at h⟩
  | k + 1 => by
    obtain ⟨ih0, ih1⟩ := wherrylaw04_MatchExact.mono_l k
    refine ⟨?_, ?_⟩
    · intro y0 y1 y2 y3
      unfold wherrylaw04_MatchExact.j0
      repeat' first
      | (with_reducible exact ih0 _ _ _ _)
      | (with_reducible exact ih1 _ _ _ _ _ _)
      | (with_reducible exact match_Check.mono _ _)
      | (with_reducible exact match_Expand.mono _ _)
      | (with_reducible exact wherrykeep_Bytes.mono _ _ _)
      | (with_reducible exact wherrykeep_Over.mono _ _)
      | (with_reducible exact wherrykeep_Toks.mono _ _ _)
      | (with_reducible exact wherryref01_Best.mono _ _ _)
      | (with_reducible exact wherryref01_CheckToks.mono _ _)
      | (with_reducible exact wherryref01_Expand.mono _ _)
      | (with_reducible exact wherryref01_Tokens.mono _ _)
      | (with_reducible exact LeO.refl _)
      | (with_reducible exact LeO.none _)
      | (with_reducible refine LeO.ite ?_ ?_)
      | (with_reducible refine LeO.bind ?_ (fun _ => ?_))
      | exact ih0 _ _ _ _
      | exact ih1 _ _ _ _ _ _
      | exact match_Check.mono _ _
      | exact match_Expand.mono _ _
      | exact wherrykeep_Bytes.mono _ _ _
      | exact wherrykeep_Over.mono _ _
      | exact wherrykeep_Toks.mono _ _ _
      | exact wherryref01_Best.mono _ _ _
      | exact wherryref01_CheckToks.mono _ _
      | exact wherryref01_Expand.mono _ _
      | exact wherryref01_Tokens.mono _ _
      | exact LeO.none _
      | refine LeO.ite ?_ ?_
      | refine LeO.bind ?_ (fun _ => ?_)
    · intro y0 y1 y2 y3 y4 y5
      unfold wherrylaw04_MatchExact.j1
      repeat' first
      | (with_reducible exact ih0 _ _ _ _)
      | (with_reducible exact ih1 _ _ _ _ _ _)
      | (with_reducible exact match_Check.mono _ _)
      | (with_reducible exact match_Expand.mono _ _)
      | (with_reducible exact wherrykeep_Bytes.mono _ _ _)
      | (with_reducible exact wherrykeep_Over.mono _ _)
      | (with_reducible exact wherrykeep_Toks.mono _ _ _)
      | (with_reducible exact wherryref01_Best.mono _ _ _)
      | (with_reducible exact wherryref01_CheckToks.mono _ _)
      | (with_reducible exact wherryref01_Expand.mono _ _)
      | (with_reducible exact wherryref01_Tokens.mono _ _)
      | (with_reducible exact LeO.refl _)
      | (with_reducible exact LeO.none _)
      | (with_reducible refine LeO.ite ?_ ?_)
      | (with_reducible refine LeO.bind ?_ (fun _ => ?_))
      | exact ih0 _ _ _ _
      | exact ih1 _ _ _ _ _ _
      | exact match_Check.mono _ _
      | exact match_Expand.mono _ _
      | exact wherrykeep_Bytes.mono _ _ _
      | exact wherrykeep_Over.mono _ _
      | exact wherrykeep_Toks.mono _ _ _
      | exact wherryref01_Best.mono _ _ _
      | exact wherryref01_CheckToks.mono _ _
      | exact wherryref01_Expand.mono _ _
      | exact wherryref01_Tokens.mono _ _
      | exact LeO.none _
      | refine LeO.ite ?_ ?_
      | refine LeO.bind ?_ (fun _ => ?_)
theorem wherrylaw04_MatchExact.mono : ∀ a0 a1 a2 k, LeO (wherrylaw04_MatchExact.f k a0 a1 a2) (wherrylaw04_MatchExact.f (k + 1) a0 a1 a2) := by
  intro a0 a1 a2 k
  obtain ⟨ih0, ih1⟩ := wherrylaw04_MatchExact.mono_l k
  unfold wherrylaw04_MatchExact.f
  repeat' first
      | (with_reducible exact ih0 _ _ _ _)
      | (with_reducible exact ih1 _ _ _ _ _ _)
      | (with_reducible exact match_Check.mono _ _)
      | (with_reducible exact match_Expand.mono _ _)
      | (with_reducible exact wherrykeep_Bytes.mono _ _ _)
      | (with_reducible exact wherrykeep_Over.mono _ _)
      | (with_reducible exact wherrykeep_Toks.mono _ _ _)
      | (with_reducible exact wherryref01_Best.mono _ _ _)
      | (with_reducible exact wherryref01_CheckToks.mono _ _)
      | (with_reducible exact wherryref01_Expand.mono _ _)
      | (with_reducible exact wherryref01_Tokens.mono _ _)
      | (with_reducible exact LeO.refl _)
      | (with_reducible exact LeO.none _)
      | (with_reducible refine LeO.ite ?_ ?_)
      | (with_reducible refine LeO.bind ?_ (fun _ => ?_))
      | exact ih0 _ _ _ _
      | exact ih1 _ _ _ _ _ _
      | exact match_Check.mono _ _
      | exact match_Expand.mono _ _
      | exact wherrykeep_Bytes.mono _ _ _
      | exact wherrykeep_Over.mono _ _
      | exact wherrykeep_Toks.mono _ _ _
      | exact wherryref01_Best.mono _ _ _
      | exact wherryref01_CheckToks.mono _ _
      | exact wherryref01_Expand.mono _ _
      | exact wherryref01_Tokens.mono _ _
      | exact LeO.none _
      | refine LeO.ite ?_ ?_
      | refine LeO.bind ?_ (fun _ => ?_)
set_option maxHeartbeats 8000000 in
set_option maxRecDepth 100000 in
theorem wherrylaw04_MatchExact.calls (k : Nat) (A0 : Option Addr) (c0 : Nat) (l0 : List Int) (a1 : Int) (A2 : Option Addr) (c2 : Nat) (l2 : List (S40)) (r : Bool) (w : World) (hr0 : Kd.C (Kd.int .u8) w A0 l0.length l0) (hc0 : l0.length ≤ c0) (hr2 : Kd.C k40 w A2 l2.length l2) (hc2 : l2.length ≤ c2) (h : wherrylaw04_MatchExact.f k l0 a1 l2 = some r) :
    Calls Try.prog 3 #[.slice A0 l0.length c0, .int .i64 a1, .slice A2 l2.length c2] w fun e w' => e = .returned (.bool r) ∧ Below w.heap.size w w' := by
  have HR0 := Aside0.mk hr0
  have HC0 := Aside0.mk hc0
  clear hr0 hc0
  have HR2 := Aside0.mk hr2
  have HC2 := Aside0.mk hc2
  clear hr2 hc2
  have HB := Aside0.mk (Below.refl w.heap.size w)
  have H : (if (l0.length : Int) > 1200 then (wherrylaw04_MatchExact.j0 k l0 a1 l2 true) else (wherrylaw04_MatchExact.j0 k l0 a1 l2 (decide ((l2.length : Int) > 600)))) = some r := h
  clear h
  have HC4 := Aside0.mk H
  clear H
  go_enter Try.func3, Try.ntmps3
  go_upto_region 1 with (fail)
  go_cut [28] (fun v28 wc => ∃ (kq : Nat) (x28_3 : Bool), v28 = .bool x28_3 ∧ Aside0 (wherrylaw04_MatchExact.j0 kq l0 a1 l2 x28_3 = some r) ∧ Aside0 (kq ≤ k) ∧ Aside0 (Below w.heap.size w wc))
  case first =>
    have H := HC4.out
    clear HC4
    by_cases c5 : (l0.length : Int) > 1200
    · rw [if_pos c5] at H
      have c5b0 : decide (1200 < (l0.length : Int)) = true := decide_eq_true c5
      have c5b1 : decide (1200 < l0.length) = true := decide_eq_true (by omega)
      clear c5
      (first | rw [c5b0] | (simp only [i64_w, i32_w]; rw [c5b0]) | skip)
      have H' := Aside0.mk H
      clear H
      go_wp2
      go_meet
      case rel => exact ⟨_, (true), (by first | rfl | (simp; done) | (simp [*]; done)), H', ⟨by first | omega | exact Nat.le_refl _⟩, ⟨by repeat (first | (with_reducible first | exact HB.out | apply below_alloc | apply pw_below_drewN | apply below_drew1) | exact HB.out)⟩⟩
    · rw [if_neg c5] at H
      have c5b0 : decide (1200 < (l0.length : Int)) = false := decide_eq_false c5
      have c5b1 : decide (1200 < l0.length) = false := decide_eq_false (by omega)
      clear c5
      (first | rw [c5b0] | (simp only [i64_w, i32_w]; rw [c5b0]) | skip)
      have H' := Aside0.mk H
      clear H
      go_wp2
      go_meet
      case rel => exact ⟨_, (decide ((l2.length : Int) > 600)), (by first | rfl | (simp; done) | (simp [*]; done)), H', ⟨by first | omega | exact Nat.le_refl _⟩, ⟨by repeat (first | (with_reducible first | exact HB.out | apply below_alloc | apply pw_below_drewN | apply below_drew1) | exact HB.out)⟩⟩
  case rest =>
    clear HC4
    try clear c2
    try clear p2
    try clear c3
    try clear c5
    try clear c5b0
    try clear c5b1
    obtain ⟨kq, x28_3, rfl, HA, HJ3, HB⟩ := hcut
    cases kq with
    | zero => exact absurd HA.out (by simp [wherrylaw04_MatchExact.j0])
    | succ kj3 =>
      have H := HA.out
      clear HA
      simp only [wherrylaw04_MatchExact.j0] at H
      by_cases c6 : x28_3 = true
      · subst c6
        have H1 : (some true) = some r := by rw [if_pos rfl] at H; exact H
        clear H
        have H := H1
        clear H1
        obtain rfl := Option.some.inj H
        go_wp2
        go_ret
        exact ⟨by first | rfl | (simp [errW_none, errW_some] <;> rfl) | (simp [*, errW_none, errW_some] <;> rfl), by repeat (first | (with_reducible first | exact HB.out | apply below_alloc | apply pw_below_drewN | apply below_drew1) | exact HB.out)⟩
      · replace c6 := Bool.eq_false_iff.mpr c6
        subst c6
        have H1 : ((wherrykeep_Twin.f l0).bind fun t169 => ((wherrykeep_TwinToks.f l2).bind fun t172 => ((match_Tokens.f t169).bind fun bt175 => ((wherryref01_Tokens.f kj3 l0).bind fun bt179 => ((match_Best.f t169 a1).bind fun bt183 => ((wherryref01_Best.f kj3 l0 a1).bind fun bt185 => ((match_Expand.f kj3 t172).bind fun bt187 => ((wherryref01_Expand.f kj3 l2).bind fun bt191 => (if bt175.2 = bt179.2 then ((wherrykeep_Toks.f kj3 bt175.1 bt179.1).bind fun t195 => (if t195 = true then (if bt183.1 = bt185.1 then (if bt183.2 = bt185.2 then (if bt187.2 = bt191.2 then ((wherrykeep_Bytes.f kj3 bt187.1 bt191.1).bind fun t196 => (if t196 = true then ((match_Check.f kj3 t172).bind fun t197 => ((wherryref01_CheckToks.f kj3 l2).bind fun t198 => (wherrylaw04_MatchExact.j1 kj3 l0 l2 t169 t172 bt187.1 (t197 != t198)))) else (wherrylaw04_MatchExact.j1 kj3 l0 l2 t169 t172 bt187.1 true))) else (wherrylaw04_MatchExact.j1 kj3 l0 l2 t169 t172 bt187.1 true)) else (wherrylaw04_MatchExact.j1 kj3 l0 l2 t169 t172 bt187.1 true)) else (wherrylaw04_MatchExact.j1 kj3 l0 l2 t169 t172 bt187.1 true)) else (wherrylaw04_MatchExact.j1 kj3 l0 l2 t169 t172 bt187.1 true))) else (wherrylaw04_MatchExact.j1 kj3 l0 l2 t169 t172 bt187.1 true)))))))))) = some r := by rw [if_neg (show ¬ (false = true) by decide)] at H; exact H
        clear H
        have H := H1
        clear H1
        replace H := Option.bind_eq_some_iff.mp H
        obtain ⟨t169, A70, H⟩ := H
        replace H : ((wherrykeep_TwinToks.f l2).bind fun t172 => ((match_Tokens.f t169).bind fun bt175 => ((wherryref01_Tokens.f kj3 l0).bind fun bt179 => ((match_Best.f t169 a1).bind fun bt183 => ((wherryref01_Best.f kj3 l0 a1).bind fun bt185 => ((match_Expand.f kj3 t172).bind fun bt187 => ((wherryref01_Expand.f kj3 l2).bind fun bt191 => (if bt175.2 = bt179.2 then ((wherrykeep_Toks.f kj3 bt175.1 bt179.1).bind fun t195 => (if t195 = true then (if bt183.1 = bt185.1 then (if bt183.2 = bt185.2 then (if bt187.2 = bt191.2 then ((wherrykeep_Bytes.f kj3 bt187.1 bt191.1).bind fun t196 => (if t196 = true then ((match_Check.f kj3 t172).bind fun t197 => ((wherryref01_CheckToks.f kj3 l2).bind fun t198 => (wherrylaw04_MatchExact.j1 kj3 l0 l2 t169 t172 bt187.1 (t197 != t198)))) else (wherrylaw04_MatchExact.j1 kj3 l0 l2 t169 t172 bt187.1 true))) else (wherrylaw04_MatchExact.j1 kj3 l0 l2 t169 t172 bt187.1 true)) else (wherrylaw04_MatchExact.j1 kj3 l0 l2 t169 t172 bt187.1 true)) else (wherrylaw04_MatchExact.j1 kj3 l0 l2 t169 t172 bt187.1 true)) else (wherrylaw04_MatchExact.j1 kj3 l0 l2 t169 t172 bt187.1 true))) else (wherrylaw04_MatchExact.j1 kj3 l0 l2 t169 t172 bt187.1 true))))))))) = some r := H
        have A7 := Aside0.mk A70
        clear A70
        replace H := Option.bind_eq_some_iff.mp H
        obtain ⟨t172, A80, H⟩ := H
        replace H : ((match_Tokens.f t169).bind fun bt175 => ((wherryref01_Tokens.f kj3 l0).bind fun bt179 => ((match_Best.f t169 a1).bind fun bt183 => ((wherryref01_Best.f kj3 l0 a1).bind fun bt185 => ((match_Expand.f kj3 t172).bind fun bt187 => ((wherryref01_Expand.f kj3 l2).bind fun bt191 => (if bt175.2 = bt179.2 then ((wherrykeep_Toks.f kj3 bt175.1 bt179.1).bind fun t195 => (if t195 = true then (if bt183.1 = bt185.1 then (if bt183.2 = bt185.2 then (if bt187.2 = bt191.2 then ((wherrykeep_Bytes.f kj3 bt187.1 bt191.1).bind fun t196 => (if t196 = true then ((match_Check.f kj3 t172).bind fun t197 => ((wherryref01_CheckToks.f kj3 l2).bind fun t198 => (wherrylaw04_MatchExact.j1 kj3 l0 l2 t169 t172 bt187.1 (t197 != t198)))) else (wherrylaw04_MatchExact.j1 kj3 l0 l2 t169 t172 bt187.1 true))) else (wherrylaw04_MatchExact.j1 kj3 l0 l2 t169 t172 bt187.1 true)) else (wherrylaw04_MatchExact.j1 kj3 l0 l2 t169 t172 bt187.1 true)) else (wherrylaw04_MatchExact.j1 kj3 l0 l2 t169 t172 bt187.1 true)) else (wherrylaw04_MatchExact.j1 kj3 l0 l2 t169 t172 bt187.1 true))) else (wherrylaw04_MatchExact.j1 kj3 l0 l2 t169 t172 bt187.1 true)))))))) = some r := H
        have A8 := Aside0.mk A80
        clear A80
        replace H := Option.bind_eq_some_iff.mp H
        obtain ⟨⟨t175, t176⟩, A90, H⟩ := H
        replace H : ((wherryref01_Tokens.f kj3 l0).bind fun bt179 => ((match_Best.f t169 a1).bind fun bt183 => ((wherryref01_Best.f kj3 l0 a1).bind fun bt185 => ((match_Expand.f kj3 t172).bind fun bt187 => ((wherryref01_Expand.f kj3 l2).bind fun bt191 => (if t176 = bt179.2 then ((wherrykeep_Toks.f kj3 t175 bt179.1).bind fun t195 => (if t195 = true then (if bt183.1 = bt185.1 then (if bt183.2 = bt185.2 then (if bt187.2 = bt191.2 then ((wherrykeep_Bytes.f kj3 bt187.1 bt191.1).bind fun t196 => (if t196 = true then ((match_Check.f kj3 t172).bind fun t197 => ((wherryref01_CheckToks.f kj3 l2).bind fun t198 => (wherrylaw04_MatchExact.j1 kj3 l0 l2 t169 t172 bt187.1 (t197 != t198)))) else (wherrylaw04_MatchExact.j1 kj3 l0 l2 t169 t172 bt187.1 true))) else (wherrylaw04_MatchExact.j1 kj3 l0 l2 t169 t172 bt187.1 true)) else (wherrylaw04_MatchExact.j1 kj3 l0 l2 t169 t172 bt187.1 true)) else (wherrylaw04_MatchExact.j1 kj3 l0 l2 t169 t172 bt187.1 true)) else (wherrylaw04_MatchExact.j1 kj3 l0 l2 t169 t172 bt187.1 true))) else (wherrylaw04_MatchExact.j1 kj3 l0 l2 t169 t172 bt187.1 true))))))) = some r := H
        have A9 := Aside0.mk A90
        clear A90
        replace H := Option.bind_eq_some_iff.mp H
        obtain ⟨⟨t179, t180⟩, A100, H⟩ := H
        replace H : ((match_Best.f t169 a1).bind fun bt183 => ((wherryref01_Best.f kj3 l0 a1).bind fun bt185 => ((match_Expand.f kj3 t172).bind fun bt187 => ((wherryref01_Expand.f kj3 l2).bind fun bt191 => (if t176 = t180 then ((wherrykeep_Toks.f kj3 t175 t179).bind fun t195 => (if t195 = true then (if bt183.1 = bt185.1 then (if bt183.2 = bt185.2 then (if bt187.2 = bt191.2 then ((wherrykeep_Bytes.f kj3 bt187.1 bt191.1).bind fun t196 => (if t196 = true then ((match_Check.f kj3 t172).bind fun t197 => ((wherryref01_CheckToks.f kj3 l2).bind fun t198 => (wherrylaw04_MatchExact.j1 kj3 l0 l2 t169 t172 bt187.1 (t197 != t198)))) else (wherrylaw04_MatchExact.j1 kj3 l0 l2 t169 t172 bt187.1 true))) else (wherrylaw04_MatchExact.j1 kj3 l0 l2 t169 t172 bt187.1 true)) else (wherrylaw04_MatchExact.j1 kj3 l0 l2 t169 t172 bt187.1 true)) else (wherrylaw04_MatchExact.j1 kj3 l0 l2 t169 t172 bt187.1 true)) else (wherrylaw04_MatchExact.j1 kj3 l0 l2 t169 t172 bt187.1 true))) else (wherrylaw04_MatchExact.j1 kj3 l0 l2 t169 t172 bt187.1 true)))))) = some r := H
        have A10 := Aside0.mk A100
        clear A100
        replace H := Option.bind_eq_some_iff.mp H
        obtain ⟨⟨t183, t184⟩, A110, H⟩ := H
        replace H : ((wherryref01_Best.f kj3 l0 a1).bind fun bt185 => ((match_Expand.f kj3 t172).bind fun bt187 => ((wherryref01_Expand.f kj3 l2).bind fun bt191 => (if t176 = t180 then ((wherrykeep_Toks.f kj3 t175 t179).bind fun t195 => (if t195 = true then (if t183 = bt185.1 then (if t184 = bt185.2 then (if bt187.2 = bt191.2 then ((wherrykeep_Bytes.f kj3 bt187.1 bt191.1).bind fun t196 => (if t196 = true then ((match_Check.f kj3 t172).bind fun t197 => ((wherryref01_CheckToks.f kj3 l2).bind fun t198 => (wherrylaw04_MatchExact.j1 kj3 l0 l2 t169 t172 bt187.1 (t197 != t198)))) else (wherrylaw04_MatchExact.j1 kj3 l0 l2 t169 t172 bt187.1 true))) else (wherrylaw04_MatchExact.j1 kj3 l0 l2 t169 t172 bt187.1 true)) else (wherrylaw04_MatchExact.j1 kj3 l0 l2 t169 t172 bt187.1 true)) else (wherrylaw04_MatchExact.j1 kj3 l0 l2 t169 t172 bt187.1 true)) else (wherrylaw04_MatchExact.j1 kj3 l0 l2 t169 t172 bt187.1 true))) else (wherrylaw04_MatchExact.j1 kj3 l0 l2 t169 t172 bt187.1 true))))) = some r := H
        have A11 := Aside0.mk A110
        clear A110
        replace H := Option.bind_eq_some_iff.mp H
        obtain ⟨⟨t185, t186⟩, A120, H⟩ := H
        replace H : ((match_Expand.f kj3 t172).bind fun bt187 => ((wherryref01_Expand.f kj3 l2).bind fun bt191 => (if t176 = t180 then ((wherrykeep_Toks.f kj3 t175 t179).bind fun t195 => (if t195 = true then (if t183 = t185 then (if t184 = t186 then (if bt187.2 = bt191.2 then ((wherrykeep_Bytes.f kj3 bt187.1 bt191.1).bind fun t196 => (if t196 = true then ((match_Check.f kj3 t172).bind fun t197 => ((wherryref01_CheckToks.f kj3 l2).bind fun t198 => (wherrylaw04_MatchExact.j1 kj3 l0 l2 t169 t172 bt187.1 (t197 != t198)))) else (wherrylaw04_MatchExact.j1 kj3 l0 l2 t169 t172 bt187.1 true))) else (wherrylaw04_MatchExact.j1 kj3 l0 l2 t169 t172 bt187.1 true)) else (wherrylaw04_MatchExact.j1 kj3 l0 l2 t169 t172 bt187.1 true)) else (wherrylaw04_MatchExact.j1 kj3 l0 l2 t169 t172 bt187.1 true)) else (wherrylaw04_MatchExact.j1 kj3 l0 l2 t169 t172 bt187.1 true))) else (wherrylaw04_MatchExact.j1 kj3 l0 l2 t169 t172 bt187.1 true)))) = some r := H
        have A12 := Aside0.mk A120
        clear A120
        replace H := Option.bind_eq_some_iff.mp H
        obtain ⟨⟨t187, t188⟩, A130, H⟩ := H
        replace H : ((wherryref01_Expand.f kj3 l2).bind fun bt191 => (if t176 = t180 then ((wherrykeep_Toks.f kj3 t175 t179).bind fun t195 => (if t195 = true then (if t183 = t185 then (if t184 = t186 then (if t188 = bt191.2 then ((wherrykeep_Bytes.f kj3 t187 bt191.1).bind fun t196 => (if t196 = true then ((match_Check.f kj3 t172).bind fun t197 => ((wherryref01_CheckToks.f kj3 l2).bind fun t198 => (wherrylaw04_MatchExact.j1 kj3 l0 l2 t169 t172 t187 (t197 != t198)))) else (wherrylaw04_MatchExact.j1 kj3 l0 l2 t169 t172 t187 true))) else (wherrylaw04_MatchExact.j1 kj3 l0 l2 t169 t172 t187 true)) else (wherrylaw04_MatchExact.j1 kj3 l0 l2 t169 t172 t187 true)) else (wherrylaw04_MatchExact.j1 kj3 l0 l2 t169 t172 t187 true)) else (wherrylaw04_MatchExact.j1 kj3 l0 l2 t169 t172 t187 true))) else (wherrylaw04_MatchExact.j1 kj3 l0 l2 t169 t172 t187 true))) = some r := H
        have A13 := Aside0.mk A130
        clear A130
        replace H := Option.bind_eq_some_iff.mp H
        obtain ⟨⟨t191, t192⟩, A140, H⟩ := H
        replace H : (if t176 = t180 then ((wherrykeep_Toks.f kj3 t175 t179).bind fun t195 => (if t195 = true then (if t183 = t185 then (if t184 = t186 then (if t188 = t192 then ((wherrykeep_Bytes.f kj3 t187 t191).bind fun t196 => (if t196 = true then ((match_Check.f kj3 t172).bind fun t197 => ((wherryref01_CheckToks.f kj3 l2).bind fun t198 => (wherrylaw04_MatchExact.j1 kj3 l0 l2 t169 t172 t187 (t197 != t198)))) else (wherrylaw04_MatchExact.j1 kj3 l0 l2 t169 t172 t187 true))) else (wherrylaw04_MatchExact.j1 kj3 l0 l2 t169 t172 t187 true)) else (wherrylaw04_MatchExact.j1 kj3 l0 l2 t169 t172 t187 true)) else (wherrylaw04_MatchExact.j1 kj3 l0 l2 t169 t172 t187 true)) else (wherrylaw04_MatchExact.j1 kj3 l0 l2 t169 t172 t187 true))) else (wherrylaw04_MatchExact.j1 kj3 l0 l2 t169 t172 t187 true)) = some r := H
        have A14 := Aside0.mk A140
        clear A140
        have HC15 := Aside0.mk H
        clear H
        go_upto_region 10 with (first | ((with_reducible refine gate_callee (f := 12) rfl ?_); refine goesL_ (some 30) rfl rfl Try.func12 (by kernel_rfl) rfl #[.slice A0 l0.length c0] rfl (by (try simp only [List.map_toArray, List.map_cons, List.map_nil]); first | done | rfl | (simp only [List.length_drop, List.length_take]; rfl)) ?_; (with_reducible refine (wherrykeep_Twin.calls _ _ l0 t169 _ ?side1 ?side2 A7.out).mono ?_); (case side1 => repeat (first | exact (Kd.C_below HR0.out HB.out) | (with_reducible refine Kd.C_alloc ?_ _) | (with_reducible refine Kd.C_drewN ?_ _) | (with_reducible refine Kd.C_drew ?_))); (case side2 => exact HC0.out); rintro e w16 ⟨v170, rfl, ho0, hb⟩; refine ⟨_, rfl, ?_⟩; have n0_ := Aside0.mk (Kd.R_lower ho0 (below_size (by repeat (first | (with_reducible first | exact HB.out | apply below_alloc | apply pw_below_drewN | apply below_drew1) | exact HB.out)))); have n1_ := Aside0.mk (below_step (by repeat (first | (with_reducible first | exact HB.out | apply below_alloc | apply pw_below_drewN | apply below_drew1) | exact HB.out)) hb); clear HB; have HO171 := n0_; have HB := n1_; clear n0_ n1_; (try clear hb); (try clear hb2); (try clear hk); (try clear hi); (try clear ho0)) | ((with_reducible refine gate_callee (f := 13) rfl ?_); refine goesL_ (some 32) rfl rfl Try.func13 (by kernel_rfl) rfl #[.slice A2 l2.length c2] rfl (by (try simp only [List.map_toArray, List.map_cons, List.map_nil]); first | done | rfl | (simp only [List.length_drop, List.length_take]; rfl)) ?_; (with_reducible refine (wherrykeep_TwinToks.calls _ _ l2 t172 _ ?side1 ?side2 A8.out).mono ?_); (case side1 => repeat (first | exact (Kd.C_below HR2.out HB.out) | (with_reducible refine Kd.C_alloc ?_ _) | (with_reducible refine Kd.C_drewN ?_ _) | (with_reducible refine Kd.C_drew ?_))); (case side2 => exact HC2.out); rintro e w17 ⟨v173, rfl, ho0, hb⟩; refine ⟨_, rfl, ?_⟩; have n0_ := Aside0.mk (Kd.R_below (by (with_reducible repeat (first | apply Kd.R_alloc | apply Kd.R_drewN | apply Kd.R_drew)); exact HO171.out) hb); have n1_ := Aside0.mk (Kd.R_lower ho0 (below_size (by repeat (first | (with_reducible first | exact HB.out | apply below_alloc | apply pw_below_drewN | apply below_drew1) | exact HB.out)))); have n2_ := Aside0.mk (below_step (by repeat (first | (with_reducible first | exact HB.out | apply below_alloc | apply pw_below_drewN | apply below_drew1) | exact HB.out)) hb); clear HO171; clear HB; have HO171 := n0_; have HO174 := n1_; have HB := n2_; clear n0_ n1_ n2_; (try clear hb); (try clear hb2); (try clear hk); (try clear hi); (try clear ho0); obtain ⟨Ao18, co18, eo18⟩ := Kd.R_slice HO171.out; subst eo18) | ((with_reducible refine gate_callee (f := 14) rfl ?_); refine goesL_ (some 35) rfl rfl Try.func14 (by kernel_rfl) rfl #[.slice Ao18 t169.length co18] rfl (by (try simp only [List.map_toArray, List.map_cons, List.map_nil]); first | done | rfl | (simp only [List.length_drop, List.length_take]; rfl)) ?_; (with_reducible refine (match_Tokens.calls _ _ t169 t175 t176 _ ?side1 ?side2 A9.out).mono ?_); (case side1 => repeat (first | exact (Kd.R_reads' HO171.out).2.2 | (with_reducible refine Kd.C_alloc ?_ _) | (with_reducible refine Kd.C_drewN ?_ _) | (with_reducible refine Kd.C_drew ?_))); (case side2 => exact (Kd.R_reads' HO171.out).2.1); rintro e w19 ⟨v177, rfl, ho0, hb⟩; refine ⟨_, rfl, ?_⟩; have n0_ := Aside0.mk (Kd.R_below (by (with_reducible repeat (first | apply Kd.R_alloc | apply Kd.R_drewN | apply Kd.R_drew)); exact HO171.out) hb); have n1_ := Aside0.mk (Kd.R_elder' (by (with_reducible repeat (first | apply Kd.R_alloc | apply Kd.R_drewN | apply Kd.R_drew)); exact HO174.out) (Kd.R_base ho0) hb); have n2_ := Aside0.mk (Kd.R_lower (Kd.R_new' ho0 (Kd.R_lt (by (with_reducible repeat (first | apply Kd.R_alloc | apply Kd.R_drewN | apply Kd.R_drew)); exact HO174.out))) (below_size (by repeat (first | (with_reducible first | exact HB.out | apply below_alloc | apply pw_below_drewN | apply below_drew1) | exact HB.out)))); have n3_ := Aside0.mk (below_step (by repeat (first | (with_reducible first | exact HB.out | apply below_alloc | apply pw_below_drewN | apply below_drew1) | exact HB.out)) hb); clear HO171; clear HO174; clear HB; have HO171 := n0_; have HO174 := n1_; have HO178 := n2_; have HB := n3_; clear n0_ n1_ n2_ n3_; (try clear hb); (try clear hb2); (try clear hk); (try clear hi); (try clear ho0)) | ((with_reducible refine gate_callee (f := 15) rfl ?_); refine goesL_ (some 40) rfl rfl Try.func15 (by kernel_rfl) rfl #[.slice A0 l0.length c0] rfl (by (try simp only [List.map_toArray, List.map_cons, List.map_nil]); first | done | rfl | (simp only [List.length_drop, List.length_take]; rfl)) ?_; (with_reducible refine (wherryref01_Tokens.calls kj3 _ _ l0 t179 t180 _ ?side1 ?side2 A10.out).mono ?_); (case side1 => repeat (first | exact (Kd.C_below HR0.out HB.out) | (with_reducible refine Kd.C_alloc ?_ _) | (with_reducible refine Kd.C_drewN ?_ _) | (with_reducible refine Kd.C_drew ?_))); (case side2 => exact HC0.out); rintro e w20 ⟨v181, rfl, ho0, hb⟩; refine ⟨_, rfl, ?_⟩; have n0_ := Aside0.mk (Kd.R_below (by (with_reducible repeat (first | apply Kd.R_alloc | apply Kd.R_drewN | apply Kd.R_drew)); exact HO171.out) hb); have n1_ := Aside0.mk (Kd.R_elder' (by (with_reducible repeat (first | apply Kd.R_alloc | apply Kd.R_drewN | apply Kd.R_drew)); exact HO174.out) (Kd.R_base ho0) hb); have n2_ := Aside0.mk (Kd.R_elder' (by (with_reducible repeat (first | apply Kd.R_alloc | apply Kd.R_drewN | apply Kd.R_drew)); exact HO178.out) (Kd.R_base ho0) hb); have n3_ := Aside0.mk (Kd.R_lower (Kd.R_new' (Kd.R_new' ho0 (Kd.R_lt (by (with_reducible repeat (first | apply Kd.R_alloc | apply Kd.R_drewN | apply Kd.R_drew)); exact HO174.out))) (Kd.R_lt (by (with_reducible repeat (first | apply Kd.R_alloc | apply Kd.R_drewN | apply Kd.R_drew)); exact HO178.out))) (below_size (by repeat (first | (with_reducible first | exact HB.out | apply below_alloc | apply pw_below_drewN | apply below_drew1) | exact HB.out)))); have n4_ := Aside0.mk (below_step (by repeat (first | (with_reducible first | exact HB.out | apply below_alloc | apply pw_below_drewN | apply below_drew1) | exact HB.out)) hb); clear HO171; clear HO174; clear HO178; clear HB; have HO171 := n0_; have HO174 := n1_; have HO178 := n2_; have HO182 := n3_; have HB := n4_; clear n0_ n1_ n2_ n3_ n4_; (try clear hb); (try clear hb2); (try clear hk); (try clear hi); (try clear ho0)) | ((with_reducible refine gate_callee (f := 16) rfl ?_); refine goesL_ (some 46) rfl rfl Try.func16 (by kernel_rfl) rfl #[.slice Ao18 t169.length co18, .int .i64 a1] rfl (by (try simp only [List.map_toArray, List.map_cons, List.map_nil]); first | done | rfl | (simp only [List.length_drop, List.length_take]; rfl)) ?_; (with_reducible refine (match_Best.calls _ _ t169 a1 t183 t184 _ ?side1 ?side2 A11.out).mono ?_); (case side1 => repeat (first | exact (Kd.R_reads' HO171.out).2.2 | (with_reducible refine Kd.C_alloc ?_ _) | (with_reducible refine Kd.C_drewN ?_ _) | (with_reducible refine Kd.C_drew ?_))); (case side2 => exact (Kd.R_reads' HO171.out).2.1); rintro e w21 ⟨rfl, hb⟩; refine ⟨_, rfl, ?_⟩; have n0_ := Aside0.mk (Kd.R_below (by (with_reducible repeat (first | apply Kd.R_alloc | apply Kd.R_drewN | apply Kd.R_drew)); exact HO171.out) hb); have n1_ := Aside0.mk (Kd.R_below (by (with_reducible repeat (first | apply Kd.R_alloc | apply Kd.R_drewN | apply Kd.R_drew)); exact HO174.out) hb); have n2_ := Aside0.mk (Kd.R_below (by (with_reducible repeat (first | apply Kd.R_alloc | apply Kd.R_drewN | apply Kd.R_drew)); exact HO178.out) hb); have n3_ := Aside0.mk (Kd.R_below (by (with_reducible repeat (first | apply Kd.R_alloc | apply Kd.R_drewN | apply Kd.R_drew)); exact HO182.out) hb); have n4_ := Aside0.mk (below_step (by repeat (first | (with_reducible first | exact HB.out | apply below_alloc | apply pw_below_drewN | apply below_drew1) | exact HB.out)) hb); clear HO171; clear HO174; clear HO178; clear HO182; clear HB; have HO171 := n0_; have HO174 := n1_; have HO178 := n2_; have HO182 := n3_; have HB := n4_; clear n0_ n1_ n2_ n3_ n4_; (try clear hb); (try clear hb2); (try clear hk); (try clear hi)) | ((with_reducible refine gate_callee (f := 17) rfl ?_); refine goesL_ (some 52) rfl rfl Try.func17 (by kernel_rfl) rfl #[.slice A0 l0.length c0, .int .i64 a1] rfl (by (try simp only [List.map_toArray, List.map_cons, List.map_nil]); first | done | rfl | (simp only [List.length_drop, List.length_take]; rfl)) ?_; (with_reducible refine (wherryref01_Best.calls kj3 _ _ l0 a1 t185 t186 _ ?side1 ?side2 A12.out).mono ?_); (case side1 => repeat (first | exact (Kd.C_below HR0.out HB.out) | (with_reducible refine Kd.C_alloc ?_ _) | (with_reducible refine Kd.C_drewN ?_ _) | (with_reducible refine Kd.C_drew ?_))); (case side2 => exact HC0.out); rintro e w' ⟨rfl, ⟨nd, rfl⟩⟩; refine ⟨_, rfl, ?_⟩; obtain ⟨Ao22, co22, eo22⟩ := Kd.R_slice HO174.out; subst eo22) | ((with_reducible refine gate_callee (f := 18) rfl ?_); refine goesL_ (some 57) rfl rfl Try.func18 (by kernel_rfl) rfl #[.slice Ao22 t172.length co22] rfl (by (try simp only [List.map_toArray, List.map_cons, List.map_nil]); first | done | rfl | (simp only [List.length_drop, List.length_take]; rfl)) ?_; (with_reducible refine (match_Expand.calls kj3 _ _ t172 t187 t188 _ ?side1 ?side2 A13.out).mono ?_); (case side1 => repeat (first | exact (Kd.R_reads' HO174.out).2.2 | (with_reducible refine Kd.C_alloc ?_ _) | (with_reducible refine Kd.C_drewN ?_ _) | (with_reducible refine Kd.C_drew ?_))); (case side2 => exact (Kd.R_reads' HO174.out).2.1); rintro e w23 ⟨v189, rfl, ho0, hb⟩; refine ⟨_, rfl, ?_⟩; have n0_ := Aside0.mk (Kd.R_elder' (by (with_reducible repeat (first | apply Kd.R_alloc | apply Kd.R_drewN | apply Kd.R_drew)); exact HO171.out) (Kd.R_base ho0) hb); have n1_ := Aside0.mk (Kd.R_below (by (with_reducible repeat (first | apply Kd.R_alloc | apply Kd.R_drewN | apply Kd.R_drew)); exact HO174.out) hb); have n2_ := Aside0.mk (Kd.R_below (by (with_reducible repeat (first | apply Kd.R_alloc | apply Kd.R_drewN | apply Kd.R_drew)); exact HO178.out) hb); have n3_ := Aside0.mk (Kd.R_below (by (with_reducible repeat (first | apply Kd.R_alloc | apply Kd.R_drewN | apply Kd.R_drew)); exact HO182.out) hb); have n4_ := Aside0.mk (Kd.R_lower (Kd.R_new' ho0 (Kd.R_lt (by (with_reducible repeat (first | apply Kd.R_alloc | apply Kd.R_drewN | apply Kd.R_drew)); exact HO171.out))) (below_size (by repeat (first | (with_reducible first | exact HB.out | apply below_alloc | apply pw_below_drewN | apply below_drew1) | exact HB.out)))); have n5_ := Aside0.mk (below_step (by repeat (first | (with_reducible first | exact HB.out | apply below_alloc | apply pw_below_drewN | apply below_drew1) | exact HB.out)) hb); clear HO171; clear HO174; clear HO178; clear HO182; clear HB; have HO171 := n0_; have HO174 := n1_; have HO178 := n2_; have HO182 := n3_; have HO190 := n4_; have HB := n5_; clear n0_ n1_ n2_ n3_ n4_ n5_; (try clear hb); (try clear hb2); (try clear hk); (try clear hi); (try clear ho0)) | ((with_reducible refine gate_callee (f := 19) rfl ?_); refine goesL_ (some 62) rfl rfl Try.func19 (by kernel_rfl) rfl #[.slice A2 l2.length c2] rfl (by (try simp only [List.map_toArray, List.map_cons, List.map_nil]); first | done | rfl | (simp only [List.length_drop, List.length_take]; rfl)) ?_; (with_reducible refine (wherryref01_Expand.calls kj3 _ _ l2 t191 t192 _ ?side1 ?side2 A14.out).mono ?_); (case side1 => repeat (first | exact (Kd.C_below HR2.out HB.out) | (with_reducible refine Kd.C_alloc ?_ _) | (with_reducible refine Kd.C_drewN ?_ _) | (with_reducible refine Kd.C_drew ?_))); (case side2 => exact HC2.out); rintro e w24 ⟨v193, rfl, ho0, hb⟩; refine ⟨_, rfl, ?_⟩; have n0_ := Aside0.mk (Kd.R_elder' (by (with_reducible repeat (first | apply Kd.R_alloc | apply Kd.R_drewN | apply Kd.R_drew)); exact HO171.out) (Kd.R_base ho0) hb); have n1_ := Aside0.mk (Kd.R_below (by (with_reducible repeat (first | apply Kd.R_alloc | apply Kd.R_drewN | apply Kd.R_drew)); exact HO174.out) hb); have n2_ := Aside0.mk (Kd.R_below (by (with_reducible repeat (first | apply Kd.R_alloc | apply Kd.R_drewN | apply Kd.R_drew)); exact HO178.out) hb); have n3_ := Aside0.mk (Kd.R_below (by (with_reducible repeat (first | apply Kd.R_alloc | apply Kd.R_drewN | apply Kd.R_drew)); exact HO182.out) hb); have n4_ := Aside0.mk (Kd.R_elder' (by (with_reducible repeat (first | apply Kd.R_alloc | apply Kd.R_drewN | apply Kd.R_drew)); exact HO190.out) (Kd.R_base ho0) hb); have n5_ := Aside0.mk (Kd.R_lower (Kd.R_new' (Kd.R_new' ho0 (Kd.R_lt (by (with_reducible repeat (first | apply Kd.R_alloc | apply Kd.R_drewN | apply Kd.R_drew)); exact HO171.out))) (Kd.R_lt (by (with_reducible repeat (first | apply Kd.R_alloc | apply Kd.R_drewN | apply Kd.R_drew)); exact HO190.out))) (below_size (by repeat (first | (with_reducible first | exact HB.out | apply below_alloc | apply pw_below_drewN | apply below_drew1) | exact HB.out)))); have n6_ := Aside0.mk (below_step (by repeat (first | (with_reducible first | exact HB.out | apply below_alloc | apply pw_below_drewN | apply below_drew1) | exact HB.out)) hb); clear HO171; clear HO174; clear HO178; clear HO182; clear HO190; clear HB; have HO171 := n0_; have HO174 := n1_; have HO178 := n2_; have HO182 := n3_; have HO190 := n4_; have HO194 := n5_; have HB := n6_; clear n0_ n1_ n2_ n3_ n4_ n5_ n6_; (try clear hb); (try clear hb2); (try clear hk); (try clear hi); (try clear ho0)))
        (try simp only [Act.put, List.setIfInBounds_toArray, List.set_cons_zero, List.set_cons_succ])
        go_cut [101] (fun v101 wc => ∃ (kq : Nat) (x101_14 : Bool), v101 = .bool x101_14 ∧ Aside0 (wherrylaw04_MatchExact.j1 kq l0 l2 t169 t172 t187 x101_14 = some r) ∧ Aside0 (kq ≤ kj3) ∧ Aside0 (Kd.R (Kd.int .u8) 5 wc w.heap.size (fun k_ => some k_ ≠ (v189 : Value).ownBlock) (.slice Ao18 t169.length co18) t169) ∧ Aside0 (Kd.R k40 40 wc w.heap.size (fun _ => True) (.slice Ao22 t172.length co22) t172) ∧ Aside0 (Kd.R (Kd.int .u8) 5 wc w.heap.size (fun k_ => some k_ ≠ ((.slice Ao18 t169.length co18) : Value).ownBlock) v189 t187) ∧ Aside0 (Below w.heap.size w wc))
        case first =>
          have H := HC15.out
          clear HC15
          by_cases c25 : t176 = t180
          · rw [if_pos c25] at H
            have c25b0 : (t176 == t180) = true := beq_iff_eq.mpr c25
            have c25b1 : (t176 != t180) = false := bne_eq_false_iff_eq.mpr c25
            clear c25
            (first | rw [c25b0] | (simp only [i64_w, i32_w]; rw [c25b0]) | skip)
            replace H := Option.bind_eq_some_iff.mp H
            obtain ⟨t195, A260, H⟩ := H
            replace H : (if t195 = true then (if t183 = t185 then (if t184 = t186 then (if t188 = t192 then ((wherrykeep_Bytes.f kj3 t187 t191).bind fun t196 => (if t196 = true then ((match_Check.f kj3 t172).bind fun t197 => ((wherryref01_CheckToks.f kj3 l2).bind fun t198 => (wherrylaw04_MatchExact.j1 kj3 l0 l2 t169 t172 t187 (t197 != t198)))) else (wherrylaw04_MatchExact.j1 kj3 l0 l2 t169 t172 t187 true))) else (wherrylaw04_MatchExact.j1 kj3 l0 l2 t169 t172 t187 true)) else (wherrylaw04_MatchExact.j1 kj3 l0 l2 t169 t172 t187 true)) else (wherrylaw04_MatchExact.j1 kj3 l0 l2 t169 t172 t187 true)) else (wherrylaw04_MatchExact.j1 kj3 l0 l2 t169 t172 t187 true)) = some r := H
            have A26 := Aside0.mk A260
            clear A260
            by_cases c27 : t195 = true
            · subst c27
              have H1 : (if t183 = t185 then (if t184 = t186 then (if t188 = t192 then ((wherrykeep_Bytes.f kj3 t187 t191).bind fun t196 => (if t196 = true then ((match_Check.f kj3 t172).bind fun t197 => ((wherryref01_CheckToks.f kj3 l2).bind fun t198 => (wherrylaw04_MatchExact.j1 kj3 l0 l2 t169 t172 t187 (t197 != t198)))) else (wherrylaw04_MatchExact.j1 kj3 l0 l2 t169 t172 t187 true))) else (wherrylaw04_MatchExact.j1 kj3 l0 l2 t169 t172 t187 true)) else (wherrylaw04_MatchExact.j1 kj3 l0 l2 t169 t172 t187 true)) else (wherrylaw04_MatchExact.j1 kj3 l0 l2 t169 t172 t187 true)) = some r := by rw [if_pos rfl] at H; exact H
              clear H
              have H := H1
              clear H1
              by_cases c28 : t183 = t185
              · rw [if_pos c28] at H
                have c28b0 : (t183 == t185) = true := beq_iff_eq.mpr c28
                have c28b1 : (t183 != t185) = false := bne_eq_false_iff_eq.mpr c28
                clear c28
                by_cases c29 : t184 = t186
                · rw [if_pos c29] at H
                  have c29b0 : (t184 == t186) = true := beq_iff_eq.mpr c29
                  have c29b1 : (t184 != t186) = false := bne_eq_false_iff_eq.mpr c29
                  clear c29
                  by_cases c30 : t188 = t192
                  · rw [if_pos c30] at H
                    have c30b0 : (t188 == t192) = true := beq_iff_eq.mpr c30
                    have c30b1 : (t188 != t192) = false := bne_eq_false_iff_eq.mpr c30
                    clear c30
                    replace H := Option.bind_eq_some_iff.mp H
                    obtain ⟨t196, A310, H⟩ := H
                    replace H : (if t196 = true then ((match_Check.f kj3 t172).bind fun t197 => ((wherryref01_CheckToks.f kj3 l2).bind fun t198 => (wherrylaw04_MatchExact.j1 kj3 l0 l2 t169 t172 t187 (t197 != t198)))) else (wherrylaw04_MatchExact.j1 kj3 l0 l2 t169 t172 t187 true)) = some r := H
                    have A31 := Aside0.mk A310
                    clear A310
                    by_cases c32 : t196 = true
                    · subst c32
                      have H1 : ((match_Check.f kj3 t172).bind fun t197 => ((wherryref01_CheckToks.f kj3 l2).bind fun t198 => (wherrylaw04_MatchExact.j1 kj3 l0 l2 t169 t172 t187 (t197 != t198)))) = some r := by rw [if_pos rfl] at H; exact H
                      clear H
                      have H := H1
                      clear H1
                      replace H := Option.bind_eq_some_iff.mp H
                      obtain ⟨t197, A330, H⟩ := H
                      replace H : ((wherryref01_CheckToks.f kj3 l2).bind fun t198 => (wherrylaw04_MatchExact.j1 kj3 l0 l2 t169 t172 t187 (t197 != t198))) = some r := H
                      have A33 := Aside0.mk A330
                      clear A330
                      replace H := Option.bind_eq_some_iff.mp H
                      obtain ⟨t198, A340, H⟩ := H
                      replace H : (wherrylaw04_MatchExact.j1 kj3 l0 l2 t169 t172 t187 (t197 != t198)) = some r := H
                      have A34 := Aside0.mk A340
                      clear A340
                      have H' := Aside0.mk H
                      clear H
                      obtain ⟨Ao35, co35, eo35⟩ := Kd.R_slice HO178.out
                      subst eo35
                      obtain ⟨Ao36, co36, eo36⟩ := Kd.R_slice HO182.out
                      subst eo36
                      go_wp2_with (first | (go_at_call 20; (with_reducible refine (wherrykeep_Toks.calls kj3 _ _ t175 _ _ t179 true _ ?side1 ?side2 ?side3 ?side4 A26.out).mono ?_); (case side1 => repeat (first | exact (Kd.R_reads' HO178.out).2.2 | (with_reducible refine Kd.C_alloc ?_ _) | (with_reducible refine Kd.C_drewN ?_ _) | (with_reducible refine Kd.C_drew ?_))); (case side2 => exact (Kd.R_reads' HO178.out).2.1); (case side3 => repeat (first | exact (Kd.R_reads' HO182.out).2.2 | (with_reducible refine Kd.C_alloc ?_ _) | (with_reducible refine Kd.C_drewN ?_ _) | (with_reducible refine Kd.C_drew ?_))); (case side4 => exact (Kd.R_reads' HO182.out).2.1); rintro e w' ⟨rfl, ⟨nd, rfl⟩⟩; obtain ⟨Ao37, co37, eo37⟩ := Kd.R_slice HO190.out; subst eo37; obtain ⟨Ao38, co38, eo38⟩ := Kd.R_slice HO194.out; subst eo38) | (go_at_call 21; (with_reducible refine (wherrykeep_Bytes.calls kj3 _ _ t187 _ _ t191 true _ ?side1 ?side2 ?side3 ?side4 A31.out).mono ?_); (case side1 => repeat (first | exact (Kd.R_reads' HO190.out).2.2 | (with_reducible refine Kd.C_alloc ?_ _) | (with_reducible refine Kd.C_drewN ?_ _) | (with_reducible refine Kd.C_drew ?_))); (case side2 => exact (Kd.R_reads' HO190.out).2.1); (case side3 => repeat (first | exact (Kd.R_reads' HO194.out).2.2 | (with_reducible refine Kd.C_alloc ?_ _) | (with_reducible refine Kd.C_drewN ?_ _) | (with_reducible refine Kd.C_drew ?_))); (case side4 => exact (Kd.R_reads' HO194.out).2.1); rintro e w' ⟨rfl, ⟨nd, rfl⟩⟩) | (go_at_call 22; (with_reducible refine (match_Check.calls kj3 _ _ t172 t197 _ ?side1 ?side2 A33.out).mono ?_); (case side1 => repeat (first | exact (Kd.R_reads' HO174.out).2.2 | (with_reducible refine Kd.C_alloc ?_ _) | (with_reducible refine Kd.C_drewN ?_ _) | (with_reducible refine Kd.C_drew ?_))); (case side2 => exact (Kd.R_reads' HO174.out).2.1); rintro e w39 ⟨rfl, hb⟩; have n0_ := Aside0.mk (Kd.R_below (by (with_reducible repeat (first | apply Kd.R_alloc | apply Kd.R_drewN | apply Kd.R_drew)); exact HO171.out) hb); have n1_ := Aside0.mk (Kd.R_below (by (with_reducible repeat (first | apply Kd.R_alloc | apply Kd.R_drewN | apply Kd.R_drew)); exact HO174.out) hb); have n2_ := Aside0.mk (Kd.R_below (by (with_reducible repeat (first | apply Kd.R_alloc | apply Kd.R_drewN | apply Kd.R_drew)); exact HO178.out) hb); have n3_ := Aside0.mk (Kd.R_below (by (with_reducible repeat (first | apply Kd.R_alloc | apply Kd.R_drewN | apply Kd.R_drew)); exact HO182.out) hb); have n4_ := Aside0.mk (Kd.R_below (by (with_reducible repeat (first | apply Kd.R_alloc | apply Kd.R_drewN | apply Kd.R_drew)); exact HO190.out) hb); have n5_ := Aside0.mk (Kd.R_below (by (with_reducible repeat (first | apply Kd.R_alloc | apply Kd.R_drewN | apply Kd.R_drew)); exact HO194.out) hb); have n6_ := Aside0.mk (below_step (by repeat (first | (with_reducible first | exact HB.out | apply below_alloc | apply pw_below_drewN | apply below_drew1) | exact HB.out)) hb); clear HO171; clear HO174; clear HO178; clear HO182; clear HO190; clear HO194; clear HB; have HO171 := n0_; have HO174 := n1_; have HO178 := n2_; have HO182 := n3_; have HO190 := n4_; have HO194 := n5_; have HB := n6_; clear n0_ n1_ n2_ n3_ n4_ n5_ n6_; (try clear hb); (try clear hb2); (try clear hk); (try clear hi)) | (go_at_call 23; (with_reducible refine (wherryref01_CheckToks.calls kj3 _ _ l2 t198 _ ?side1 ?side2 A34.out).mono ?_); (case side1 => repeat (first | exact (Kd.C_below HR2.out HB.out) | (with_reducible refine Kd.C_alloc ?_ _) | (with_reducible refine Kd.C_drewN ?_ _) | (with_reducible refine Kd.C_drew ?_))); (case side2 => exact HC2.out); rintro e w40 ⟨rfl, hb⟩; have n0_ := Aside0.mk (Kd.R_below (by (with_reducible repeat (first | apply Kd.R_alloc | apply Kd.R_drewN | apply Kd.R_drew)); exact HO171.out) hb); have n1_ := Aside0.mk (Kd.R_below (by (with_reducible repeat (first | apply Kd.R_alloc | apply Kd.R_drewN | apply Kd.R_drew)); exact HO174.out) hb); have n2_ := Aside0.mk (Kd.R_below (by (with_reducible repeat (first | apply Kd.R_alloc | apply Kd.R_drewN | apply Kd.R_drew)); exact HO178.out) hb); have n3_ := Aside0.mk (Kd.R_below (by (with_reducible repeat (first | apply Kd.R_alloc | apply Kd.R_drewN | apply Kd.R_drew)); exact HO182.out) hb); have n4_ := Aside0.mk (Kd.R_below (by (with_reducible repeat (first | apply Kd.R_alloc | apply Kd.R_drewN | apply Kd.R_drew)); exact HO190.out) hb); have n5_ := Aside0.mk (Kd.R_below (by (with_reducible repeat (first | apply Kd.R_alloc | apply Kd.R_drewN | apply Kd.R_drew)); exact HO194.out) hb); have n6_ := Aside0.mk (below_step (by repeat (first | (with_reducible first | exact HB.out | apply below_alloc | apply pw_below_drewN | apply below_drew1) | exact HB.out)) hb); clear HO171; clear HO174; clear HO178; clear HO182; clear HO190; clear HO194; clear HB; have HO171 := n0_; have HO174 := n1_; have HO178 := n2_; have HO182 := n3_; have HO190 := n4_; have HO194 := n5_; have HB := n6_; clear n0_ n1_ n2_ n3_ n4_ n5_ n6_; (try clear hb); (try clear hb2); (try clear hk); (try clear hi)))
                      go_meet
                      case rel => exact ⟨_, ((t197 != t198)), (by first | rfl | (simp; done) | (simp [*]; done)), H', ⟨by have := HJ3.out; first | omega | exact Nat.le_refl _⟩, ⟨by (with_reducible repeat (first | apply Kd.R_alloc | apply Kd.R_drewN | apply Kd.R_drew)); exact Kd.R_mono HO171.out (fun _ hk => hk.1.2)⟩, ⟨by (with_reducible repeat (first | apply Kd.R_alloc | apply Kd.R_drewN | apply Kd.R_drew)); exact Kd.R_mono HO174.out (fun _ hk => trivial)⟩, ⟨by (with_reducible repeat (first | apply Kd.R_alloc | apply Kd.R_drewN | apply Kd.R_drew)); exact Kd.R_mono HO190.out (fun _ hk => hk.1.2)⟩, ⟨by repeat (first | (with_reducible first | exact HB.out | apply below_alloc | apply pw_below_drewN | apply below_drew1) | exact HB.out)⟩⟩
                    · replace c32 := Bool.eq_false_iff.mpr c32
                      subst c32
                      have H1 : (wherrylaw04_MatchExact.j1 kj3 l0 l2 t169 t172 t187 true) = some r := by rw [if_neg (show ¬ (false = true) by decide)] at H; exact H
                      clear H
                      have H := H1
                      clear H1
                      have H' := Aside0.mk H
                      clear H
                      obtain ⟨Ao41, co41, eo41⟩ := Kd.R_slice HO178.out
                      subst eo41
                      obtain ⟨Ao42, co42, eo42⟩ := Kd.R_slice HO182.out
                      subst eo42
                      go_wp2_with (first | (go_at_call 20; (with_reducible refine (wherrykeep_Toks.calls kj3 _ _ t175 _ _ t179 true _ ?side1 ?side2 ?side3 ?side4 A26.out).mono ?_); (case side1 => repeat (first | exact (Kd.R_reads' HO178.out).2.2 | (with_reducible refine Kd.C_alloc ?_ _) | (with_reducible refine Kd.C_drewN ?_ _) | (with_reducible refine Kd.C_drew ?_))); (case side2 => exact (Kd.R_reads' HO178.out).2.1); (case side3 => repeat (first | exact (Kd.R_reads' HO182.out).2.2 | (with_reducible refine Kd.C_alloc ?_ _) | (with_reducible refine Kd.C_drewN ?_ _) | (with_reducible refine Kd.C_drew ?_))); (case side4 => exact (Kd.R_reads' HO182.out).2.1); rintro e w' ⟨rfl, ⟨nd, rfl⟩⟩; obtain ⟨Ao43, co43, eo43⟩ := Kd.R_slice HO190.out; subst eo43; obtain ⟨Ao44, co44, eo44⟩ := Kd.R_slice HO194.out; subst eo44) | (go_at_call 21; (with_reducible refine (wherrykeep_Bytes.calls kj3 _ _ t187 _ _ t191 false _ ?side1 ?side2 ?side3 ?side4 A31.out).mono ?_); (case side1 => repeat (first | exact (Kd.R_reads' HO190.out).2.2 | (with_reducible refine Kd.C_alloc ?_ _) | (with_reducible refine Kd.C_drewN ?_ _) | (with_reducible refine Kd.C_drew ?_))); (case side2 => exact (Kd.R_reads' HO190.out).2.1); (case side3 => repeat (first | exact (Kd.R_reads' HO194.out).2.2 | (with_reducible refine Kd.C_alloc ?_ _) | (with_reducible refine Kd.C_drewN ?_ _) | (with_reducible refine Kd.C_drew ?_))); (case side4 => exact (Kd.R_reads' HO194.out).2.1); rintro e w' ⟨rfl, ⟨nd, rfl⟩⟩))
                      go_meet
                      case rel => exact ⟨_, (true), (by first | rfl | (simp; done) | (simp [*]; done)), H', ⟨by have := HJ3.out; first | omega | exact Nat.le_refl _⟩, ⟨by (with_reducible repeat (first | apply Kd.R_alloc | apply Kd.R_drewN | apply Kd.R_drew)); exact Kd.R_mono HO171.out (fun _ hk => hk.1.2)⟩, ⟨by (with_reducible repeat (first | apply Kd.R_alloc | apply Kd.R_drewN | apply Kd.R_drew)); exact Kd.R_mono HO174.out (fun _ hk => trivial)⟩, ⟨by (with_reducible repeat (first | apply Kd.R_alloc | apply Kd.R_drewN | apply Kd.R_drew)); exact Kd.R_mono HO190.out (fun _ hk => hk.1.2)⟩, ⟨by repeat (first | (with_reducible first | exact HB.out | apply below_alloc | apply pw_below_drewN | apply below_drew1) | exact HB.out)⟩⟩
                  · rw [if_neg c30] at H
                    have c30b0 : (t188 == t192) = false := beq_eq_false_iff_ne.mpr c30
                    have c30b1 : (t188 != t192) = true := bne_iff_ne.mpr c30
                    have H' := Aside0.mk H
                    clear H
                    obtain ⟨Ao45, co45, eo45⟩ := Kd.R_slice HO178.out
                    subst eo45
                    obtain ⟨Ao46, co46, eo46⟩ := Kd.R_slice HO182.out
                    subst eo46
                    go_wp2_with (first | (go_at_call 20; (with_reducible refine (wherrykeep_Toks.calls kj3 _ _ t175 _ _ t179 true _ ?side1 ?side2 ?side3 ?side4 A26.out).mono ?_); (case side1 => repeat (first | exact (Kd.R_reads' HO178.out).2.2 | (with_reducible refine Kd.C_alloc ?_ _) | (with_reducible refine Kd.C_drewN ?_ _) | (with_reducible refine Kd.C_drew ?_))); (case side2 => exact (Kd.R_reads' HO178.out).2.1); (case side3 => repeat (first | exact (Kd.R_reads' HO182.out).2.2 | (with_reducible refine Kd.C_alloc ?_ _) | (with_reducible refine Kd.C_drewN ?_ _) | (with_reducible refine Kd.C_drew ?_))); (case side4 => exact (Kd.R_reads' HO182.out).2.1); rintro e w' ⟨rfl, ⟨nd, rfl⟩⟩))
                    go_meet
                    case rel => exact ⟨_, (true), (by first | rfl | (simp; done) | (simp [*]; done)), H', ⟨by have := HJ3.out; first | omega | exact Nat.le_refl _⟩, ⟨by (with_reducible repeat (first | apply Kd.R_alloc | apply Kd.R_drewN | apply Kd.R_drew)); exact Kd.R_mono HO171.out (fun _ hk => hk.1.2)⟩, ⟨by (with_reducible repeat (first | apply Kd.R_alloc | apply Kd.R_drewN | apply Kd.R_drew)); exact Kd.R_mono HO174.out (fun _ hk => trivial)⟩, ⟨by (with_reducible repeat (first | apply Kd.R_alloc | apply Kd.R_drewN | apply Kd.R_drew)); exact Kd.R_mono HO190.out (fun _ hk => hk.1.2)⟩, ⟨by repeat (first | (with_reducible first | exact HB.out | apply below_alloc | apply pw_below_drewN | apply below_drew1) | exact HB.out)⟩⟩
                · rw [if_neg c29] at H
                  have c29b0 : (t184 == t186) = false := beq_eq_false_iff_ne.mpr c29
                  have c29b1 : (t184 != t186) = true := bne_iff_ne.mpr c29
                  have H' := Aside0.mk H
                  clear H
                  obtain ⟨Ao47, co47, eo47⟩ := Kd.R_slice HO178.out
                  subst eo47
                  obtain ⟨Ao48, co48, eo48⟩ := Kd.R_slice HO182.out
                  subst eo48
                  go_wp2_with (first | (go_at_call 20; (with_reducible refine (wherrykeep_Toks.calls kj3 _ _ t175 _ _ t179 true _ ?side1 ?side2 ?side3 ?side4 A26.out).mono ?_); (case side1 => repeat (first | exact (Kd.R_reads' HO178.out).2.2 | (with_reducible refine Kd.C_alloc ?_ _) | (with_reducible refine Kd.C_drewN ?_ _) | (with_reducible refine Kd.C_drew ?_))); (case side2 => exact (Kd.R_reads' HO178.out).2.1); (case side3 => repeat (first | exact (Kd.R_reads' HO182.out).2.2 | (with_reducible refine Kd.C_alloc ?_ _) | (with_reducible refine Kd.C_drewN ?_ _) | (with_reducible refine Kd.C_drew ?_))); (case side4 => exact (Kd.R_reads' HO182.out).2.1); rintro e w' ⟨rfl, ⟨nd, rfl⟩⟩))
                  go_meet
                  case rel => exact ⟨_, (true), (by first | rfl | (simp; done) | (simp [*]; done)), H', ⟨by have := HJ3.out; first | omega | exact Nat.le_refl _⟩, ⟨by (with_reducible repeat (first | apply Kd.R_alloc | apply Kd.R_drewN | apply Kd.R_drew)); exact Kd.R_mono HO171.out (fun _ hk => hk.1.2)⟩, ⟨by (with_reducible repeat (first | apply Kd.R_alloc | apply Kd.R_drewN | apply Kd.R_drew)); exact Kd.R_mono HO174.out (fun _ hk => trivial)⟩, ⟨by (with_reducible repeat (first | apply Kd.R_alloc | apply Kd.R_drewN | apply Kd.R_drew)); exact Kd.R_mono HO190.out (fun _ hk => hk.1.2)⟩, ⟨by repeat (first | (with_reducible first | exact HB.out | apply below_alloc | apply pw_below_drewN | apply below_drew1) | exact HB.out)⟩⟩
              · rw [if_neg c28] at H
                have c28b0 : (t183 == t185) = false := beq_eq_false_iff_ne.mpr c28
                have c28b1 : (t183 != t185) = true := bne_iff_ne.mpr c28
                have H' := Aside0.mk H
                clear H
                obtain ⟨Ao49, co49, eo49⟩ := Kd.R_slice HO178.out
                subst eo49
                obtain ⟨Ao50, co50, eo50⟩ := Kd.R_slice HO182.out
                subst eo50
                go_wp2_with (first | (go_at_call 20; (with_reducible refine (wherrykeep_Toks.calls kj3 _ _ t175 _ _ t179 true _ ?side1 ?side2 ?side3 ?side4 A26.out).mono ?_); (case side1 => repeat (first | exact (Kd.R_reads' HO178.out).2.2 | (with_reducible refine Kd.C_alloc ?_ _) | (with_reducible refine Kd.C_drewN ?_ _) | (with_reducible refine Kd.C_drew ?_))); (case side2 => exact (Kd.R_reads' HO178.out).2.1); (case side3 => repeat (first | exact (Kd.R_reads' HO182.out).2.2 | (with_reducible refine Kd.C_alloc ?_ _) | (with_reducible refine Kd.C_drewN ?_ _) | (with_reducible refine Kd.C_drew ?_))); (case side4 => exact (Kd.R_reads' HO182.out).2.1); rintro e w' ⟨rfl, ⟨nd, rfl⟩⟩))
                go_meet
                case rel => exact ⟨_, (true), (by first | rfl | (simp; done) | (simp [*]; done)), H', ⟨by have := HJ3.out; first | omega | exact Nat.le_refl _⟩, ⟨by (with_reducible repeat (first | apply Kd.R_alloc | apply Kd.R_drewN | apply Kd.R_drew)); exact Kd.R_mono HO171.out (fun _ hk => hk.1.2)⟩, ⟨by (with_reducible repeat (first | apply Kd.R_alloc | apply Kd.R_drewN | apply Kd.R_drew)); exact Kd.R_mono HO174.out (fun _ hk => trivial)⟩, ⟨by (with_reducible repeat (first | apply Kd.R_alloc | apply Kd.R_drewN | apply Kd.R_drew)); exact Kd.R_mono HO190.out (fun _ hk => hk.1.2)⟩, ⟨by repeat (first | (with_reducible first | exact HB.out | apply below_alloc | apply pw_below_drewN | apply below_drew1) | exact HB.out)⟩⟩
            · replace c27 := Bool.eq_false_iff.mpr c27
              subst c27
              have H1 : (wherrylaw04_MatchExact.j1 kj3 l0 l2 t169 t172 t187 true) = some r := by rw [if_neg (show ¬ (false = true) by decide)] at H; exact H
              clear H
              have H := H1
              clear H1
              have H' := Aside0.mk H
              clear H
              obtain ⟨Ao51, co51, eo51⟩ := Kd.R_slice HO178.out
              subst eo51
              obtain ⟨Ao52, co52, eo52⟩ := Kd.R_slice HO182.out
              subst eo52
              go_wp2_with (first | (go_at_call 20; (with_reducible refine (wherrykeep_Toks.calls kj3 _ _ t175 _ _ t179 false _ ?side1 ?side2 ?side3 ?side4 A26.out).mono ?_); (case side1 => repeat (first | exact (Kd.R_reads' HO178.out).2.2 | (with_reducible refine Kd.C_alloc ?_ _) | (with_reducible refine Kd.C_drewN ?_ _) | (with_reducible refine Kd.C_drew ?_))); (case side2 => exact (Kd.R_reads' HO178.out).2.1); (case side3 => repeat (first | exact (Kd.R_reads' HO182.out).2.2 | (with_reducible refine Kd.C_alloc ?_ _) | (with_reducible refine Kd.C_drewN ?_ _) | (with_reducible refine Kd.C_drew ?_))); (case side4 => exact (Kd.R_reads' HO182.out).2.1); rintro e w' ⟨rfl, ⟨nd, rfl⟩⟩))
              go_meet
              case rel => exact ⟨_, (true), (by first | rfl | (simp; done) | (simp [*]; done)), H', ⟨by have := HJ3.out; first | omega | exact Nat.le_refl _⟩, ⟨by (with_reducible repeat (first | apply Kd.R_alloc | apply Kd.R_drewN | apply Kd.R_drew)); exact Kd.R_mono HO171.out (fun _ hk => hk.1.2)⟩, ⟨by (with_reducible repeat (first | apply Kd.R_alloc | apply Kd.R_drewN | apply Kd.R_drew)); exact Kd.R_mono HO174.out (fun _ hk => trivial)⟩, ⟨by (with_reducible repeat (first | apply Kd.R_alloc | apply Kd.R_drewN | apply Kd.R_drew)); exact Kd.R_mono HO190.out (fun _ hk => hk.1.2)⟩, ⟨by repeat (first | (with_reducible first | exact HB.out | apply below_alloc | apply pw_below_drewN | apply below_drew1) | exact HB.out)⟩⟩
          · rw [if_neg c25] at H
            have c25b0 : (t176 == t180) = false := beq_eq_false_iff_ne.mpr c25
            have c25b1 : (t176 != t180) = true := bne_iff_ne.mpr c25
            (first | rw [c25b0] | (simp only [i64_w, i32_w]; rw [c25b0]) | skip)
            have H' := Aside0.mk H
            clear H
            go_wp2
            go_meet
            case rel => exact ⟨_, (true), (by first | rfl | (simp; done) | (simp [*]; done)), H', ⟨by have := HJ3.out; first | omega | exact Nat.le_refl _⟩, ⟨by (with_reducible repeat (first | apply Kd.R_alloc | apply Kd.R_drewN | apply Kd.R_drew)); exact Kd.R_mono HO171.out (fun _ hk => hk.1.2)⟩, ⟨by (with_reducible repeat (first | apply Kd.R_alloc | apply Kd.R_drewN | apply Kd.R_drew)); exact Kd.R_mono HO174.out (fun _ hk => trivial)⟩, ⟨by (with_reducible repeat (first | apply Kd.R_alloc | apply Kd.R_drewN | apply Kd.R_drew)); exact Kd.R_mono HO190.out (fun _ hk => hk.1.2)⟩, ⟨by repeat (first | (with_reducible first | exact HB.out | apply below_alloc | apply pw_below_drewN | apply below_drew1) | exact HB.out)⟩⟩
        case rest =>
          clear HC15
          try clear c1
          try clear c2
          try clear p2
          try clear c3
          try clear c5
          try clear c5b0
          try clear c5b1
          try clear c6
          try clear c12
          try clear c13
          try clear c14
          try clear c15
          try clear c16
          try clear c17
          try clear c18
          try clear c19
          try clear c25
          try clear c25b0
          try clear c25b1
          try clear c27
          try clear c28
          try clear c28b0
          try clear c28b1
          try clear c29
          try clear c29b0
          try clear c29b1
          try clear c30
          try clear c30b0
          try clear c30b1
          try clear c32
          try clear p2
          obtain ⟨kq, x101_14, rfl, HA, HJ14, HO_7, HO_8, HO_17, HB⟩ := hcut
          cases kq with
          | zero => exact absurd HA.out (by simp [wherrylaw04_MatchExact.j1])
          | succ kj14 =>
            have H := HA.out
            clear HA
            simp only [wherrylaw04_MatchExact.j1] at H
            by_cases c53 : x101_14 = true
            · subst c53
              have H1 : (some false) = some r := by rw [if_pos rfl] at H; exact H
              clear H
              have H := H1
              clear H1
              obtain rfl := Option.some.inj H
              go_wp2
              go_ret
              exact ⟨by first | rfl | (simp [errW_none, errW_some] <;> rfl) | (simp [*, errW_none, errW_some] <;> rfl), by repeat (first | (with_reducible first | exact HB.out | apply below_alloc | apply pw_below_drewN | apply below_drew1) | exact HB.out)⟩
            · replace c53 := Bool.eq_false_iff.mpr c53
              subst c53
              have H1 : ((wherrykeep_Over.f kj14 t187).bind fun t199 => ((wherrykeep_Bytes.f kj14 t169 l0).bind fun t200 => (if t200 = true then ((wherrykeep_Toks.f kj14 t172 l2).bind fun t201 => (if t201 = true then ((wherrylaw04_wakes.f).bind fun t202 => (some t202)) else (some false))) else (some false)))) = some r := by rw [if_neg (show ¬ (false = true) by decide)] at H; exact H
              clear H
              have H := H1
              clear H1
              replace H := Option.bind_eq_some_iff.mp H
              obtain ⟨t199, A540, H⟩ := H
              replace H : ((wherrykeep_Bytes.f kj14 t169 l0).bind fun t200 => (if t200 = true then ((wherrykeep_Toks.f kj14 t172 l2).bind fun t201 => (if t201 = true then ((wherrylaw04_wakes.f).bind fun t202 => (some t202)) else (some false))) else (some false))) = some r := H
              have A54 := Aside0.mk A540
              clear A540
              replace H := Option.bind_eq_some_iff.mp H
              obtain ⟨t200, A550, H⟩ := H
              replace H : (if t200 = true then ((wherrykeep_Toks.f kj14 t172 l2).bind fun t201 => (if t201 = true then ((wherrylaw04_wakes.f).bind fun t202 => (some t202)) else (some false))) else (some false)) = some r := H
              have A55 := Aside0.mk A550
              clear A550
              by_cases c56 : t200 = true
              · subst c56
                have H1 : ((wherrykeep_Toks.f kj14 t172 l2).bind fun t201 => (if t201 = true then ((wherrylaw04_wakes.f).bind fun t202 => (some t202)) else (some false))) = some r := by rw [if_pos rfl] at H; exact H
                clear H
                have H := H1
                clear H1
                replace H := Option.bind_eq_some_iff.mp H
                obtain ⟨t201, A570, H⟩ := H
                replace H : (if t201 = true then ((wherrylaw04_wakes.f).bind fun t202 => (some t202)) else (some false)) = some r := H
                have A57 := Aside0.mk A570
                clear A570
                by_cases c58 : t201 = true
                · subst c58
                  have H1 : ((wherrylaw04_wakes.f).bind fun t202 => (some t202)) = some r := by rw [if_pos rfl] at H; exact H
                  clear H
                  have H := H1
                  clear H1
                  replace H := Option.bind_eq_some_iff.mp H
                  obtain ⟨t202, A590, H⟩ := H
                  replace H : (some t202) = some r := H
                  have A59 := Aside0.mk A590
                  clear A590
                  obtain rfl := Option.some.inj H
                  obtain ⟨Ao60, co60, eo60⟩ := Kd.R_slice HO_17.out
                  subst eo60
                  go_wp2_with (first | ((with_reducible refine gate_callee (f := 24) rfl ?_); refine goesL_ (some 103) rfl rfl Try.func24 (by kernel_rfl) rfl #[.slice Ao60 t187.length co60] rfl (by (try simp only [List.map_toArray, List.map_cons, List.map_nil]); first | done | rfl | (simp only [List.length_drop, List.length_take]; rfl)) ?_; (with_reducible refine (wherrykeep_Over.calls kj14 (fun k_ => some k_ = (.slice Ao60 t187.length co60 : Value).ownBlock) (.slice Ao60 t187.length co60) t187 t199 w _ ?side1 ?side2 A54.out).mono ?_); (case side1 => repeat (first | (with_reducible first | exact HB.out | apply below_alloc | apply pw_below_drewN | apply below_drew1) | exact HB.out)); (case side2 => exact Kd.R_tight rfl HO_17.out); rintro e w61 ⟨rfl, hy0, hb, hkp⟩; refine ⟨_, rfl, ?_⟩; have n0_ := Aside0.mk (Kd.R_mono (ok' := fun k_ => some k_ ≠ (.slice Ao60 t187.length co60 : Value).ownBlock) (Kd.R_keptB (HO_7.out) hkp (fun k_ hk_ hs_ => (hk_) hs_)) (fun k_ hk_ => hk_.1)); have n1_ := Aside0.mk (Kd.R_mono (ok' := fun k_ => True) (Kd.R_keptB ((Kd.R_apart' HO_8.out (Kd.R_typed HO_17.out) (by decide))) hkp (fun k_ hk_ hs_ => (hk_.2) hs_)) (fun k_ hk_ => trivial)); have n2_ := Aside0.mk (Kd.R_reok rfl hy0 (fun k_ e_ => HO_17.out.1 k_ e_)); have n3_ := Aside0.mk (hb); clear HO_7; clear HO_8; clear HO_17; clear HB; have HO_7 := n0_; have HO_8 := n1_; have HO_17 := n2_; have HB := n3_; clear n0_ n1_ n2_ n3_; (try clear hb); (try clear hkp); (try clear hy0)) | ((with_reducible refine gate_callee (f := 21) rfl ?_); refine goesL_ (some 106) rfl rfl Try.func21 (by kernel_rfl) rfl #[.slice Ao18 t169.length co18, .slice A0 l0.length c0] rfl (by (try simp only [List.map_toArray, List.map_cons, List.map_nil]); first | done | rfl | (simp only [List.length_drop, List.length_take]; rfl)) ?_; (with_reducible refine (wherrykeep_Bytes.calls kj14 _ _ t169 _ _ l0 true _ ?side1 ?side2 ?side3 ?side4 A55.out).mono ?_); (case side1 => repeat (first | exact (Kd.R_reads' HO_7.out).2.2 | (with_reducible refine Kd.C_alloc ?_ _) | (with_reducible refine Kd.C_drewN ?_ _) | (with_reducible refine Kd.C_drew ?_))); (case side2 => exact (Kd.R_reads' HO_7.out).2.1); (case side3 => repeat (first | exact (Kd.C_below HR0.out HB.out) | (with_reducible refine Kd.C_alloc ?_ _) | (with_reducible refine Kd.C_drewN ?_ _) | (with_reducible refine Kd.C_drew ?_))); (case side4 => exact HC0.out); rintro e w' ⟨rfl, ⟨nd, rfl⟩⟩; refine ⟨_, rfl, ?_⟩) | (go_at_call 20; (with_reducible refine (wherrykeep_Toks.calls kj14 _ _ t172 _ _ l2 true _ ?side1 ?side2 ?side3 ?side4 A57.out).mono ?_); (case side1 => repeat (first | exact (Kd.R_reads' HO_8.out).2.2 | (with_reducible refine Kd.C_alloc ?_ _) | (with_reducible refine Kd.C_drewN ?_ _) | (with_reducible refine Kd.C_drew ?_))); (case side2 => exact (Kd.R_reads' HO_8.out).2.1); (case side3 => repeat (first | exact (Kd.C_below HR2.out (by repeat (first | (with_reducible first | exact HB.out | apply below_alloc | apply pw_below_drewN | apply below_drew1) | exact HB.out))) | (with_reducible refine Kd.C_alloc ?_ _) | (with_reducible refine Kd.C_drewN ?_ _) | (with_reducible refine Kd.C_drew ?_))); (case side4 => exact HC2.out); rintro e w' ⟨rfl, ⟨nd, rfl⟩⟩) | (go_at_call 25; (with_reducible refine (wherrylaw04_wakes.calls  t202 _ A59.out).mono ?_); rintro e w62 ⟨rfl, hb⟩; have n0_ := Aside0.mk (Kd.R_below (by (with_reducible repeat (first | apply Kd.R_alloc | apply Kd.R_drewN | apply Kd.R_drew)); exact HO_7.out) hb); have n1_ := Aside0.mk (Kd.R_below (by (with_reducible repeat (first | apply Kd.R_alloc | apply Kd.R_drewN | apply Kd.R_drew)); exact HO_8.out) hb); have n2_ := Aside0.mk (Kd.R_below (by (with_reducible repeat (first | apply Kd.R_alloc | apply Kd.R_drewN | apply Kd.R_drew)); exact HO_17.out) hb); have n3_ := Aside0.mk (below_step (by repeat (first | (with_reducible first | exact HB.out | apply below_alloc | apply pw_below_drewN | apply below_drew1) | exact HB.out)) hb); clear HO_7; clear HO_8; clear HO_17; clear HB; have HO_7 := n0_; have HO_8 := n1_; have HO_17 := n2_; have HB := n3_; clear n0_ n1_ n2_ n3_; (try clear hb); (try clear hb2); (try clear hk); (try clear hi)))
                  go_ret
                  exact ⟨by first | rfl | (simp [errW_none, errW_some] <;> rfl) | (simp [*, errW_none, errW_some] <;> rfl), by repeat (first | (with_reducible first | exact HB.out | apply below_alloc | apply pw_below_drewN | apply below_drew1) | exact HB.out)⟩
                · replace c58 := Bool.eq_false_iff.mpr c58
                  subst c58
                  have H1 : (some false) = some r := by rw [if_neg (show ¬ (false = true) by decide)] at H; exact H
                  clear H
                  have H := H1
                  clear H1
                  obtain rfl := Option.some.inj H
                  obtain ⟨Ao63, co63, eo63⟩ := Kd.R_slice HO_17.out
                  subst eo63
                  go_wp2_with (first | ((with_reducible refine gate_callee (f := 24) rfl ?_); refine goesL_ (some 103) rfl rfl Try.func24 (by kernel_rfl) rfl #[.slice Ao63 t187.length co63] rfl (by (try simp only [List.map_toArray, List.map_cons, List.map_nil]); first | done | rfl | (simp only [List.length_drop, List.length_take]; rfl)) ?_; (with_reducible refine (wherrykeep_Over.calls kj14 (fun k_ => some k_ = (.slice Ao63 t187.length co63 : Value).ownBlock) (.slice Ao63 t187.length co63) t187 t199 w _ ?side1 ?side2 A54.out).mono ?_); (case side1 => repeat (first | (with_reducible first | exact HB.out | apply below_alloc | apply pw_below_drewN | apply below_drew1) | exact HB.out)); (case side2 => exact Kd.R_tight rfl HO_17.out); rintro e w64 ⟨rfl, hy0, hb, hkp⟩; refine ⟨_, rfl, ?_⟩; have n0_ := Aside0.mk (Kd.R_mono (ok' := fun k_ => some k_ ≠ (.slice Ao63 t187.length co63 : Value).ownBlock) (Kd.R_keptB (HO_7.out) hkp (fun k_ hk_ hs_ => (hk_) hs_)) (fun k_ hk_ => hk_.1)); have n1_ := Aside0.mk (Kd.R_mono (ok' := fun k_ => True) (Kd.R_keptB ((Kd.R_apart' HO_8.out (Kd.R_typed HO_17.out) (by decide))) hkp (fun k_ hk_ hs_ => (hk_.2) hs_)) (fun k_ hk_ => trivial)); have n2_ := Aside0.mk (Kd.R_reok rfl hy0 (fun k_ e_ => HO_17.out.1 k_ e_)); have n3_ := Aside0.mk (hb); clear HO_7; clear HO_8; clear HO_17; clear HB; have HO_7 := n0_; have HO_8 := n1_; have HO_17 := n2_; have HB := n3_; clear n0_ n1_ n2_ n3_; (try clear hb); (try clear hkp); (try clear hy0)) | ((with_reducible refine gate_callee (f := 21) rfl ?_); refine goesL_ (some 106) rfl rfl Try.func21 (by kernel_rfl) rfl #[.slice Ao18 t169.length co18, .slice A0 l0.length c0] rfl (by (try simp only [List.map_toArray, List.map_cons, List.map_nil]); first | done | rfl | (simp only [List.length_drop, List.length_take]; rfl)) ?_; (with_reducible refine (wherrykeep_Bytes.calls kj14 _ _ t169 _ _ l0 true _ ?side1 ?side2 ?side3 ?side4 A55.out).mono ?_); (case side1 => repeat (first | exact (Kd.R_reads' HO_7.out).2.2 | (with_reducible refine Kd.C_alloc ?_ _) | (with_reducible refine Kd.C_drewN ?_ _) | (with_reducible refine Kd.C_drew ?_))); (case side2 => exact (Kd.R_reads' HO_7.out).2.1); (case side3 => repeat (first | exact (Kd.C_below HR0.out HB.out) | (with_reducible refine Kd.C_alloc ?_ _) | (with_reducible refine Kd.C_drewN ?_ _) | (with_reducible refine Kd.C_drew ?_))); (case side4 => exact HC0.out); rintro e w' ⟨rfl, ⟨nd, rfl⟩⟩; refine ⟨_, rfl, ?_⟩) | (go_at_call 20; (with_reducible refine (wherrykeep_Toks.calls kj14 _ _ t172 _ _ l2 false _ ?side1 ?side2 ?side3 ?side4 A57.out).mono ?_); (case side1 => repeat (first | exact (Kd.R_reads' HO_8.out).2.2 | (with_reducible refine Kd.C_alloc ?_ _) | (with_reducible refine Kd.C_drewN ?_ _) | (with_reducible refine Kd.C_drew ?_))); (case side2 => exact (Kd.R_reads' HO_8.out).2.1); (case side3 => repeat (first | exact (Kd.C_below HR2.out (by repeat (first | (with_reducible first | exact HB.out | apply below_alloc | apply pw_below_drewN | apply below_drew1) | exact HB.out))) | (with_reducible refine Kd.C_alloc ?_ _) | (with_reducible refine Kd.C_drewN ?_ _) | (with_reducible refine Kd.C_drew ?_))); (case side4 => exact HC2.out); rintro e w' ⟨rfl, ⟨nd, rfl⟩⟩))
                  go_ret
                  exact ⟨by first | rfl | (simp [errW_none, errW_some] <;> rfl) | (simp [*, errW_none, errW_some] <;> rfl), by repeat (first | (with_reducible first | exact HB.out | apply below_alloc | apply pw_below_drewN | apply below_drew1) | exact HB.out)⟩
              · replace c56 := Bool.eq_false_iff.mpr c56
                subst c56
                have H1 : (some false) = some r := by rw [if_neg (show ¬ (false = true) by decide)] at H; exact H
                clear H
                have H := H1
                clear H1
                obtain rfl := Option.some.inj H
                obtain ⟨Ao65, co65, eo65⟩ := Kd.R_slice HO_17.out
                subst eo65
                go_wp2_with (first | ((with_reducible refine gate_callee (f := 24) rfl ?_); refine goesL_ (some 103) rfl rfl Try.func24 (by kernel_rfl) rfl #[.slice Ao65 t187.length co65] rfl (by (try simp only [List.map_toArray, List.map_cons, List.map_nil]); first | done | rfl | (simp only [List.length_drop, List.length_take]; rfl)) ?_; (with_reducible refine (wherrykeep_Over.calls kj14 (fun k_ => some k_ = (.slice Ao65 t187.length co65 : Value).ownBlock) (.slice Ao65 t187.length co65) t187 t199 w _ ?side1 ?side2 A54.out).mono ?_); (case side1 => repeat (first | (with_reducible first | exact HB.out | apply below_alloc | apply pw_below_drewN | apply below_drew1) | exact HB.out)); (case side2 => exact Kd.R_tight rfl HO_17.out); rintro e w66 ⟨rfl, hy0, hb, hkp⟩; refine ⟨_, rfl, ?_⟩; have n0_ := Aside0.mk (Kd.R_mono (ok' := fun k_ => some k_ ≠ (.slice Ao65 t187.length co65 : Value).ownBlock) (Kd.R_keptB (HO_7.out) hkp (fun k_ hk_ hs_ => (hk_) hs_)) (fun k_ hk_ => hk_.1)); have n1_ := Aside0.mk (Kd.R_mono (ok' := fun k_ => True) (Kd.R_keptB ((Kd.R_apart' HO_8.out (Kd.R_typed HO_17.out) (by decide))) hkp (fun k_ hk_ hs_ => (hk_.2) hs_)) (fun k_ hk_ => trivial)); have n2_ := Aside0.mk (Kd.R_reok rfl hy0 (fun k_ e_ => HO_17.out.1 k_ e_)); have n3_ := Aside0.mk (hb); clear HO_7; clear HO_8; clear HO_17; clear HB; have HO_7 := n0_; have HO_8 := n1_; have HO_17 := n2_; have HB := n3_; clear n0_ n1_ n2_ n3_; (try clear hb); (try clear hkp); (try clear hy0)) | ((with_reducible refine gate_callee (f := 21) rfl ?_); refine goesL_ (some 106) rfl rfl Try.func21 (by kernel_rfl) rfl #[.slice Ao18 t169.length co18, .slice A0 l0.length c0] rfl (by (try simp only [List.map_toArray, List.map_cons, List.map_nil]); first | done | rfl | (simp only [List.length_drop, List.length_take]; rfl)) ?_; (with_reducible refine (wherrykeep_Bytes.calls kj14 _ _ t169 _ _ l0 false _ ?side1 ?side2 ?side3 ?side4 A55.out).mono ?_); (case side1 => repeat (first | exact (Kd.R_reads' HO_7.out).2.2 | (with_reducible refine Kd.C_alloc ?_ _) | (with_reducible refine Kd.C_drewN ?_ _) | (with_reducible refine Kd.C_drew ?_))); (case side2 => exact (Kd.R_reads' HO_7.out).2.1); (case side3 => repeat (first | exact (Kd.C_below HR0.out HB.out) | (with_reducible refine Kd.C_alloc ?_ _) | (with_reducible refine Kd.C_drewN ?_ _) | (with_reducible refine Kd.C_drew ?_))); (case side4 => exact HC0.out); rintro e w' ⟨rfl, ⟨nd, rfl⟩⟩; refine ⟨_, rfl, ?_⟩))
                go_ret
                exact ⟨by first | rfl | (simp [errW_none, errW_some] <;> rfl) | (simp [*, errW_none, errW_some] <;> rfl), by repeat (first | (with_reducible first | exact HB.out | apply below_alloc | apply pw_below_drewN | apply below_drew1) | exact HB.out)⟩

-- PART
end Go.Proofs.Ytagdlmlanjjecaa.P
