-- Written by a program of this session out of the translation. Lean checks it.
import Derived.Test.YtaoeghdpmmeaiaaPx0
import Derived.Test.YtaoeghdpmmeaiaaPx4
import Derived.Test.YtaoeghdpmmeaiaaPx12
import Derived.Test.YtaoeghdpmmeaiaaPx13
import Derived.Test.YtaoeghdpmmeaiaaPx14
import Derived.Test.YtaoeghdpmmeaiaaPx22
namespace Go.Proofs.Ytaoeghdpmmeaiaa.P
open Go.RowKit Go.Proofs.YtaoeghdpmmeaiaaW.PrintWords Go.Proofs.YtaoeghdpmmeaiaaW.PrintLast Go.Proofs.YtaoeghdpmmeaiaaW.PrintMore
attribute [local go_sem] max2_int min2_int max_two min_two max_three min_three max_four min_four   -- for this text's walks alone
set_option linter.unusedVariables false
set_option linter.unusedSimpArgs false

-- PART
/-! ### wherrylaw03_TreeLeast: function 9 -/
mutual
def wherrylaw03_TreeLeast.j0 : Nat → List Int → List Int → Int → Bool → Option (Bool)
  | 0, _, _, _, _ => none
  | k + 1, x3, x9, x12, x90 => if x90 = true then (some false) else (if (x3.length : Int) = 3 then (if 0 < (x3.length : Int) then (if (rd x3 0) < 1 then (wherrylaw03_TreeLeast.j1 k x3 x9 x12 true) else (if 1 < (x3.length : Int) then (if (rd x3 1) < 1 then (wherrylaw03_TreeLeast.j1 k x3 x9 x12 true) else (if 2 < (x3.length : Int) then (if (rd x3 2) < 1 then (wherrylaw03_TreeLeast.j1 k x3 x9 x12 true) else ((canon_Check.f x3).bind fun t318 => (wherrylaw03_TreeLeast.j1 k x3 x9 x12 (t318 != 0)))) else (none))) else (none))) else (none)) else (wherrylaw03_TreeLeast.j1 k x3 x9 x12 true))
def wherrylaw03_TreeLeast.j1 : Nat → List Int → List Int → Int → Bool → Option (Bool)
  | 0, _, _, _, _ => none
  | k + 1, x3, x9, x12, x116 => if x116 = true then ((wherrylaw03_wakes.f k).bind fun t319 => (some t319)) else ((tree_Cost.f x9 x3).bind fun bt320 => (if bt320.2 = 0 then (if bt320.1 ≥ x12 then ((wherrylaw03_wakes.f k).bind fun t322 => (some t322)) else (some false)) else (some false)))
end
def wherrylaw03_TreeLeast.f (k : Nat) (a0 : Int) (a1 : Int) (a2 : Int) (l3 : List Int) : Option (Bool) := (some (([wrap64 (1 + (wrap64 (Int.tmod (IntKind.u64.wrap (a0)) 1000))), wrap64 (1 + (wrap64 (Int.tmod (IntKind.u64.wrap (a1)) 1000))), wrap64 (1 + (wrap64 (Int.tmod (IntKind.u64.wrap (a2)) 1000)))] : List Int) : List Int)).bind fun y295 => ((tree_Lengths.f y295 15).bind fun bt298 => ((tree_Cost.f y295 bt298.1).bind fun bt302 => ((tree_Lengths.f (([0, wrap64 (1 + (wrap64 (Int.tmod (IntKind.u64.wrap (a0)) 1000))), 0] : List Int)) 15).bind fun bt307 => (if bt298.2 = 0 then (if bt302.2 = 0 then (if bt307.2 = 0 then ((wherrykeep_Ints.f k bt307.1 (([0, 1, 0] : List Int))).bind fun t314 => (if t314 = true then (wherrylaw03_TreeLeast.j0 k l3 y295 bt302.1 (bt302.1 != (wrap64 ((wrap64 ((wrap64 ((wrap64 ((wrap64 ((wrap64 ((wrap64 (1 + (wrap64 (Int.tmod (IntKind.u64.wrap (a0)) 1000)))) + (wrap64 (1 + (wrap64 (Int.tmod (IntKind.u64.wrap (a1)) 1000)))))) + (wrap64 (1 + (wrap64 (Int.tmod (IntKind.u64.wrap (a2)) 1000)))))) + (wrap64 (1 + (wrap64 (Int.tmod (IntKind.u64.wrap (a0)) 1000)))))) + (wrap64 (1 + (wrap64 (Int.tmod (IntKind.u64.wrap (a1)) 1000)))))) + (wrap64 (1 + (wrap64 (Int.tmod (IntKind.u64.wrap (a2)) 1000)))))) - (mx (wrap64 (1 + (wrap64 (Int.tmod (IntKind.u64.wrap (a0)) 1000)))) (mx (wrap64 (1 + (wrap64 (Int.tmod (IntKind.u64.wrap (a1)) 1000)))) (wrap64 (1 + (wrap64 (Int.tmod (IntKind.u64.wrap (a2)) 1000)))))))))) else (wherrylaw03_TreeLeast.j0 k l3 y295 bt302.1 true))) else (wherrylaw03_TreeLeast.j0 k l3 y295 bt302.1 true)) else (wherrylaw03_TreeLeast.j0 k l3 y295 bt302.1 true)) else (wherrylaw03_TreeLeast.j0 k l3 y295 bt302.1 true)))))
theorem wherrylaw03_TreeLeast.mono_l : ∀ k, (∀ y0 y1 y2 y3, LeO (wherrylaw03_TreeLeast.j0 k y0 y1 y2 y3) (wherrylaw03_TreeLeast.j0 (k + 1) y0 y1 y2 y3)) ∧ (∀ y0 y1 y2 y3, LeO (wherrylaw03_TreeLeast.j1 k y0 y1 y2 y3) (wherrylaw03_TreeLeast.j1 (k + 1) y0 y1 y2 y3))
  | 0 => ⟨fun _ _ _ _ r h => by simp [wherrylaw03_TreeLeast.j0] at h, fun _ _ _ _ r h => by simp [wherrylaw03_TreeLeast.j1] at h⟩
  | k + 1 => by
    obtain ⟨ih0, ih1⟩ := wherrylaw03_TreeLeast.mono_l k
    refine ⟨?_, ?_⟩
    · intro y0 y1 y2 y3
      unfold wherrylaw03_TreeLeast.j0
      repeat' first
      | (with_reducible exact ih0 _ _ _ _)
      | (with_reducible exact ih1 _ _ _ _)
      | (with_reducible exact wherrykeep_Ints.mono _ _ _)
      | (with_reducible exact wherrylaw03_wakes.mono _)
      | (with_reducible exact LeO.refl _)
      | (with_reducible exact LeO.none _)
      | (with_reducible refine LeO.ite ?_ ?_)
      | (with_reducible refine LeO.bind ?_ (fun _ => ?_))
      | exact ih0 _ _ _ _
      | exact ih1 _ _ _ _
      | exact wherrykeep_Ints.mono _ _ _
      | exact wherrylaw03_wakes.mono _
      | exact LeO.none _
      | refine LeO.ite ?_ ?_
      | refine LeO.bind ?_ (fun _ => ?_)
    · intro y0 y1 y2 y3
      unfold wherrylaw03_TreeLeast.j1
      repeat' first
      | (with_reducible exact ih0 _ _ _ _)
      | (with_reducible exact ih1 _ _ _ _)
      | (with_reducible exact wherrykeep_Ints.mono _ _ _)
      | (with_reducible exact wherrylaw03_wakes.mono _)
      | (with_reducible exact LeO.refl _)
      | (with_reducible exact LeO.none _)
      | (with_reducible refine LeO.ite ?_ ?_)
      | (with_reducible refine LeO.bind ?_ (fun _ => ?_))
      | exact ih0 _ _ _ _
      | exact ih1 _ _ _ _
      | exact wherrykeep_Ints.mono _ _ _
      | exact wherrylaw03_wakes.mono _
      | exact LeO.none _
      | refine LeO.ite ?_ ?_
      | refine LeO.bind ?_ (fun _ => ?_)
theorem wherrylaw03_TreeLeast.mono : ∀ a0 a1 a2 a3 k, LeO (wherrylaw03_TreeLeast.f k a0 a1 a2 a3) (wherrylaw03_TreeLeast.f (k + 1) a0 a1 a2 a3) := by
  intro a0 a1 a2 a3 k
  obtain ⟨ih0, ih1⟩ := wherrylaw03_TreeLeast.mono_l k
  unfold wherrylaw03_TreeLeast.f
  repeat' first
      | (with_reducible exact ih0 _ _ _ _)
      | (with_reducible exact ih1 _ _ _ _)
      | (with_reducible exact wherrykeep_Ints.mono _ _ _)
      | (with_reducible exact wherrylaw03_wakes.mono _)
      | (with_reducible exact LeO.refl _)
      | (with_reducible exact LeO.none _)
      | (with_reducible refine LeO.ite ?_ ?_)
      | (with_reducible refine LeO.bind ?_ (fun _ => ?_))
      | exact ih0 _ _ _ _
      | exact ih1 _ _ _ _
      | exact wherrykeep_Ints.mono _ _ _
      | exact wherrylaw03_wakes.mono _
      | exact LeO.none _
      | refine LeO.ite ?_ ?_
      | refine LeO.bind ?_ (fun _ => ?_)
set_option maxHeartbeats 8000000 in
set_option maxRecDepth 100000 in
theorem wherrylaw03_TreeLeast.calls (k : Nat) (a0 : Int) (a1 : Int) (a2 : Int) (A3 : Option Addr) (c3 : Nat) (l3 : List Int) (r : Bool) (w : World) (hr3 : Kd.C (Kd.int .i64) w A3 l3.length l3) (hc3 : l3.length ≤ c3) (h : wherrylaw03_TreeLeast.f k a0 a1 a2 l3 = some r) :
    Calls Try.prog 9 #[.int .i64 a0, .int .i64 a1, .int .i64 a2, .slice A3 l3.length c3] w fun e w' => e = .returned (.bool r) ∧ Below w.heap.size w w' := by
  have HR3 := Aside0.mk hr3
  have HC3 := Aside0.mk hc3
  clear hr3 hc3
  have HB := Aside0.mk (Below.refl w.heap.size w)
  have H : ((some (([wrap64 (1 + (wrap64 (Int.tmod (IntKind.u64.wrap (a0)) 1000))), wrap64 (1 + (wrap64 (Int.tmod (IntKind.u64.wrap (a1)) 1000))), wrap64 (1 + (wrap64 (Int.tmod (IntKind.u64.wrap (a2)) 1000)))] : List Int) : List Int)).bind fun y295 => ((tree_Lengths.f y295 15).bind fun bt298 => ((tree_Cost.f y295 bt298.1).bind fun bt302 => ((tree_Lengths.f (([0, wrap64 (1 + (wrap64 (Int.tmod (IntKind.u64.wrap (a0)) 1000))), 0] : List Int)) 15).bind fun bt307 => (if bt298.2 = 0 then (if bt302.2 = 0 then (if bt307.2 = 0 then ((wherrykeep_Ints.f k bt307.1 (([0, 1, 0] : List Int))).bind fun t314 => (if t314 = true then (wherrylaw03_TreeLeast.j0 k l3 y295 bt302.1 (bt302.1 != (wrap64 ((wrap64 ((wrap64 ((wrap64 ((wrap64 ((wrap64 ((wrap64 (1 + (wrap64 (Int.tmod (IntKind.u64.wrap (a0)) 1000)))) + (wrap64 (1 + (wrap64 (Int.tmod (IntKind.u64.wrap (a1)) 1000)))))) + (wrap64 (1 + (wrap64 (Int.tmod (IntKind.u64.wrap (a2)) 1000)))))) + (wrap64 (1 + (wrap64 (Int.tmod (IntKind.u64.wrap (a0)) 1000)))))) + (wrap64 (1 + (wrap64 (Int.tmod (IntKind.u64.wrap (a1)) 1000)))))) + (wrap64 (1 + (wrap64 (Int.tmod (IntKind.u64.wrap (a2)) 1000)))))) - (mx (wrap64 (1 + (wrap64 (Int.tmod (IntKind.u64.wrap (a0)) 1000)))) (mx (wrap64 (1 + (wrap64 (Int.tmod (IntKind.u64.wrap (a1)) 1000)))) (wrap64 (1 + (wrap64 (Int.tmod (IntKind.u64.wrap (a2)) 1000)))))))))) else (wherrylaw03_TreeLeast.j0 k l3 y295 bt302.1 true))) else (wherrylaw03_TreeLeast.j0 k l3 y295 bt302.1 true)) else (wherrylaw03_TreeLeast.j0 k l3 y295 bt302.1 true)) else (wherrylaw03_TreeLeast.j0 k l3 y295 bt302.1 true)))))) = some r := h
  clear h
  obtain ⟨y295, hy295⟩ : ∃ y_ : List Int, y_ = (([wrap64 (1 + (wrap64 (Int.tmod (IntKind.u64.wrap (a0)) 1000))), wrap64 (1 + (wrap64 (Int.tmod (IntKind.u64.wrap (a1)) 1000))), wrap64 (1 + (wrap64 (Int.tmod (IntKind.u64.wrap (a2)) 1000)))] : List Int)) := ⟨_, rfl⟩
  replace H : ((tree_Lengths.f y295 15).bind fun bt298 => ((tree_Cost.f y295 bt298.1).bind fun bt302 => ((tree_Lengths.f (([0, wrap64 (1 + (wrap64 (Int.tmod (IntKind.u64.wrap (a0)) 1000))), 0] : List Int)) 15).bind fun bt307 => (if bt298.2 = 0 then (if bt302.2 = 0 then (if bt307.2 = 0 then ((wherrykeep_Ints.f k bt307.1 (([0, 1, 0] : List Int))).bind fun t314 => (if t314 = true then (wherrylaw03_TreeLeast.j0 k l3 y295 bt302.1 (bt302.1 != (wrap64 ((wrap64 ((wrap64 ((wrap64 ((wrap64 ((wrap64 ((wrap64 (1 + (wrap64 (Int.tmod (IntKind.u64.wrap (a0)) 1000)))) + (wrap64 (1 + (wrap64 (Int.tmod (IntKind.u64.wrap (a1)) 1000)))))) + (wrap64 (1 + (wrap64 (Int.tmod (IntKind.u64.wrap (a2)) 1000)))))) + (wrap64 (1 + (wrap64 (Int.tmod (IntKind.u64.wrap (a0)) 1000)))))) + (wrap64 (1 + (wrap64 (Int.tmod (IntKind.u64.wrap (a1)) 1000)))))) + (wrap64 (1 + (wrap64 (Int.tmod (IntKind.u64.wrap (a2)) 1000)))))) - (mx (wrap64 (1 + (wrap64 (Int.tmod (IntKind.u64.wrap (a0)) 1000)))) (mx (wrap64 (1 + (wrap64 (Int.tmod (IntKind.u64.wrap (a1)) 1000)))) (wrap64 (1 + (wrap64 (Int.tmod (IntKind.u64.wrap (a2)) 1000)))))))))) else (wherrylaw03_TreeLeast.j0 k l3 y295 bt302.1 true))) else (wherrylaw03_TreeLeast.j0 k l3 y295 bt302.1 true)) else (wherrylaw03_TreeLeast.j0 k l3 y295 bt302.1 true)) else (wherrylaw03_TreeLeast.j0 k l3 y295 bt302.1 true))))) = some r := by first | (rw [hy295]; with_reducible exact H) | (have H2_ := (Option.bind_some _ _).symm.trans H; rw [hy295]; with_reducible exact H2_) | (have H2_ := (Option.bind_some _ _).symm.trans H; with_reducible exact H2_) | with_reducible exact H | (rw [hy295]; exact H) | exact H
  have Ny295 := Aside0.mk hy295
  clear hy295
  replace H := Option.bind_eq_some_iff.mp H
  obtain ⟨⟨t298, t299⟩, A50, H⟩ := H
  replace H : ((tree_Cost.f y295 t298).bind fun bt302 => ((tree_Lengths.f (([0, wrap64 (1 + (wrap64 (Int.tmod (IntKind.u64.wrap (a0)) 1000))), 0] : List Int)) 15).bind fun bt307 => (if t299 = 0 then (if bt302.2 = 0 then (if bt307.2 = 0 then ((wherrykeep_Ints.f k bt307.1 (([0, 1, 0] : List Int))).bind fun t314 => (if t314 = true then (wherrylaw03_TreeLeast.j0 k l3 y295 bt302.1 (bt302.1 != (wrap64 ((wrap64 ((wrap64 ((wrap64 ((wrap64 ((wrap64 ((wrap64 (1 + (wrap64 (Int.tmod (IntKind.u64.wrap (a0)) 1000)))) + (wrap64 (1 + (wrap64 (Int.tmod (IntKind.u64.wrap (a1)) 1000)))))) + (wrap64 (1 + (wrap64 (Int.tmod (IntKind.u64.wrap (a2)) 1000)))))) + (wrap64 (1 + (wrap64 (Int.tmod (IntKind.u64.wrap (a0)) 1000)))))) + (wrap64 (1 + (wrap64 (Int.tmod (IntKind.u64.wrap (a1)) 1000)))))) + (wrap64 (1 + (wrap64 (Int.tmod (IntKind.u64.wrap (a2)) 1000)))))) - (mx (wrap64 (1 + (wrap64 (Int.tmod (IntKind.u64.wrap (a0)) 1000)))) (mx (wrap64 (1 + (wrap64 (Int.tmod (IntKind.u64.wrap (a1)) 1000)))) (wrap64 (1 + (wrap64 (Int.tmod (IntKind.u64.wrap (a2)) 1000)))))))))) else (wherrylaw03_TreeLeast.j0 k l3 y295 bt302.1 true))) else (wherrylaw03_TreeLeast.j0 k l3 y295 bt302.1 true)) else (wherrylaw03_TreeLeast.j0 k l3 y295 bt302.1 true)) else (wherrylaw03_TreeLeast.j0 k l3 y295 bt302.1 true)))) = some r := H
  have A5 := Aside0.mk A50
  clear A50
  replace H := Option.bind_eq_some_iff.mp H
  obtain ⟨⟨t302, t303⟩, A60, H⟩ := H
  replace H : ((tree_Lengths.f (([0, wrap64 (1 + (wrap64 (Int.tmod (IntKind.u64.wrap (a0)) 1000))), 0] : List Int)) 15).bind fun bt307 => (if t299 = 0 then (if t303 = 0 then (if bt307.2 = 0 then ((wherrykeep_Ints.f k bt307.1 (([0, 1, 0] : List Int))).bind fun t314 => (if t314 = true then (wherrylaw03_TreeLeast.j0 k l3 y295 t302 (t302 != (wrap64 ((wrap64 ((wrap64 ((wrap64 ((wrap64 ((wrap64 ((wrap64 (1 + (wrap64 (Int.tmod (IntKind.u64.wrap (a0)) 1000)))) + (wrap64 (1 + (wrap64 (Int.tmod (IntKind.u64.wrap (a1)) 1000)))))) + (wrap64 (1 + (wrap64 (Int.tmod (IntKind.u64.wrap (a2)) 1000)))))) + (wrap64 (1 + (wrap64 (Int.tmod (IntKind.u64.wrap (a0)) 1000)))))) + (wrap64 (1 + (wrap64 (Int.tmod (IntKind.u64.wrap (a1)) 1000)))))) + (wrap64 (1 + (wrap64 (Int.tmod (IntKind.u64.wrap (a2)) 1000)))))) - (mx (wrap64 (1 + (wrap64 (Int.tmod (IntKind.u64.wrap (a0)) 1000)))) (mx (wrap64 (1 + (wrap64 (Int.tmod (IntKind.u64.wrap (a1)) 1000)))) (wrap64 (1 + (wrap64 (Int.tmod (IntKind.u64.wrap (a2)) 1000)))))))))) else (wherrylaw03_TreeLeast.j0 k l3 y295 t302 true))) else (wherrylaw03_TreeLeast.j0 k l3 y295 t302 true)) else (wherrylaw03_TreeLeast.j0 k l3 y295 t302 true)) else (wherrylaw03_TreeLeast.j0 k l3 y295 t302 true))) = some r := H
  have A6 := Aside0.mk A60
  clear A60
  obtain ⟨y304, hy304⟩ : ∃ y_ : List Int, y_ = (([0, wrap64 (1 + (wrap64 (Int.tmod (IntKind.u64.wrap (a0)) 1000))), 0] : List Int)) := ⟨_, rfl⟩
  replace H : ((tree_Lengths.f y304 15).bind fun bt307 => (if t299 = 0 then (if t303 = 0 then (if bt307.2 = 0 then ((wherrykeep_Ints.f k bt307.1 (([0, 1, 0] : List Int))).bind fun t314 => (if t314 = true then (wherrylaw03_TreeLeast.j0 k l3 y295 t302 (t302 != (wrap64 ((wrap64 ((wrap64 ((wrap64 ((wrap64 ((wrap64 ((wrap64 (1 + (wrap64 (Int.tmod (IntKind.u64.wrap (a0)) 1000)))) + (wrap64 (1 + (wrap64 (Int.tmod (IntKind.u64.wrap (a1)) 1000)))))) + (wrap64 (1 + (wrap64 (Int.tmod (IntKind.u64.wrap (a2)) 1000)))))) + (wrap64 (1 + (wrap64 (Int.tmod (IntKind.u64.wrap (a0)) 1000)))))) + (wrap64 (1 + (wrap64 (Int.tmod (IntKind.u64.wrap (a1)) 1000)))))) + (wrap64 (1 + (wrap64 (Int.tmod (IntKind.u64.wrap (a2)) 1000)))))) - (mx (wrap64 (1 + (wrap64 (Int.tmod (IntKind.u64.wrap (a0)) 1000)))) (mx (wrap64 (1 + (wrap64 (Int.tmod (IntKind.u64.wrap (a1)) 1000)))) (wrap64 (1 + (wrap64 (Int.tmod (IntKind.u64.wrap (a2)) 1000)))))))))) else (wherrylaw03_TreeLeast.j0 k l3 y295 t302 true))) else (wherrylaw03_TreeLeast.j0 k l3 y295 t302 true)) else (wherrylaw03_TreeLeast.j0 k l3 y295 t302 true)) else (wherrylaw03_TreeLeast.j0 k l3 y295 t302 true))) = some r := by first | (rw [hy304]; with_reducible exact H) | (have H2_ := (Option.bind_some _ _).symm.trans H; rw [hy304]; with_reducible exact H2_) | (have H2_ := (Option.bind_some _ _).symm.trans H; with_reducible exact H2_) | with_reducible exact H | (rw [hy304]; exact H) | exact H
  have Ny304 := Aside0.mk hy304
  clear hy304
  replace H := Option.bind_eq_some_iff.mp H
  obtain ⟨⟨t307, t308⟩, A70, H⟩ := H
  replace H : (if t299 = 0 then (if t303 = 0 then (if t308 = 0 then ((wherrykeep_Ints.f k t307 (([0, 1, 0] : List Int))).bind fun t314 => (if t314 = true then (wherrylaw03_TreeLeast.j0 k l3 y295 t302 (t302 != (wrap64 ((wrap64 ((wrap64 ((wrap64 ((wrap64 ((wrap64 ((wrap64 (1 + (wrap64 (Int.tmod (IntKind.u64.wrap (a0)) 1000)))) + (wrap64 (1 + (wrap64 (Int.tmod (IntKind.u64.wrap (a1)) 1000)))))) + (wrap64 (1 + (wrap64 (Int.tmod (IntKind.u64.wrap (a2)) 1000)))))) + (wrap64 (1 + (wrap64 (Int.tmod (IntKind.u64.wrap (a0)) 1000)))))) + (wrap64 (1 + (wrap64 (Int.tmod (IntKind.u64.wrap (a1)) 1000)))))) + (wrap64 (1 + (wrap64 (Int.tmod (IntKind.u64.wrap (a2)) 1000)))))) - (mx (wrap64 (1 + (wrap64 (Int.tmod (IntKind.u64.wrap (a0)) 1000)))) (mx (wrap64 (1 + (wrap64 (Int.tmod (IntKind.u64.wrap (a1)) 1000)))) (wrap64 (1 + (wrap64 (Int.tmod (IntKind.u64.wrap (a2)) 1000)))))))))) else (wherrylaw03_TreeLeast.j0 k l3 y295 t302 true))) else (wherrylaw03_TreeLeast.j0 k l3 y295 t302 true)) else (wherrylaw03_TreeLeast.j0 k l3 y295 t302 true)) else (wherrylaw03_TreeLeast.j0 k l3 y295 t302 true)) = some r := H
  have A7 := Aside0.mk A70
  clear A70
  have HC8 := Aside0.mk H
  clear H
  go_enter Try.func9, Try.ntmps9
  go_upto_region 6 with (first | ((with_reducible refine gate_dst (N := 36) rfl ?_); (try (refine gate_guard (by rfl) ?_; dsimp only)); refine Kd.R_lit (Kd.int .i64) _ 3 ?hg (N := 36) ?hd (xs := ([wrap64 (1 + (wrap64 (Int.tmod (IntKind.u64.wrap (a0)) 1000))), wrap64 (1 + (wrap64 (Int.tmod (IntKind.u64.wrap (a1)) 1000))), wrap64 (1 + (wrap64 (Int.tmod (IntKind.u64.wrap (a2)) 1000)))] : List Int)) (inner := [.int .i64 (wrap64 (1 + (wrap64 (Int.tmod (IntKind.u64.wrap (a0)) 1000)))), .int .i64 (wrap64 (1 + (wrap64 (Int.tmod (IntKind.u64.wrap (a1)) 1000)))), .int .i64 (wrap64 (1 + (wrap64 (Int.tmod (IntKind.u64.wrap (a2)) 1000))))]) (ok := fun _ => True) (okp := fun _ => True) ?hr ?hp (fun _ hk => hk) trivial (Below.refl _ _) (Nat.le_refl _) (by simp) ?_; (case hd => rfl); (case hg => rfl); (case hr => first | (go_simp; done) | (go_simp; rfl)); (case hp => exact (Reps.one (show Kd.M (Kd.int .i64) _ _ _ (wrap64 (1 + (wrap64 (Int.tmod (IntKind.u64.wrap (a0)) 1000)))) [.int .i64 (wrap64 (1 + (wrap64 (Int.tmod (IntKind.u64.wrap (a0)) 1000))))] from rfl) (Reps.one (show Kd.M (Kd.int .i64) _ _ _ (wrap64 (1 + (wrap64 (Int.tmod (IntKind.u64.wrap (a1)) 1000)))) [.int .i64 (wrap64 (1 + (wrap64 (Int.tmod (IntKind.u64.wrap (a1)) 1000))))] from rfl) (Reps.one (show Kd.M (Kd.int .i64) _ _ _ (wrap64 (1 + (wrap64 (Int.tmod (IntKind.u64.wrap (a2)) 1000)))) [.int .i64 (wrap64 (1 + (wrap64 (Int.tmod (IntKind.u64.wrap (a2)) 1000))))] from rfl) (Reps.none _ _))))); intro v296 w9 ho10 hb hg_ hnew_; clear hg_ hnew_; (first | rw [← Ny295.out] at ho10 | (simp only [Int.reduceToNat] at ho10; rw [← Ny295.out] at ho10)); have n0_ := Aside0.mk (Kd.R_lower ho10 (below_size (by repeat (first | (with_reducible first | exact HB.out | apply below_alloc | apply pw_below_drewN | apply below_drew1) | exact HB.out)))); have n1_ := Aside0.mk (below_step (by repeat (first | (with_reducible first | exact HB.out | apply below_alloc | apply pw_below_drewN | apply below_drew1) | exact HB.out)) hb); clear HB; have HO297 := n0_; have HB := n1_; clear n0_ n1_; clear hb ho10; obtain ⟨Ao11, co11, eo11⟩ := Kd.R_slice HO297.out; subst eo11) | ((with_reducible refine gate_callee (f := 12) rfl ?_); refine goesL_ (some 39) rfl rfl Try.func12 (by kernel_rfl) rfl #[.slice Ao11 y295.length co11, .int .i64 15] rfl (by (try simp only [List.map_toArray, List.map_cons, List.map_nil]); first | done | rfl | (simp only [List.length_drop, List.length_take]; rfl)) ?_; (with_reducible refine (tree_Lengths.calls _ _ y295 15 t298 t299 _ ?side1 ?side2 A5.out).mono ?_); (case side1 => repeat (first | exact (Kd.R_reads' HO297.out).2.2 | (with_reducible refine Kd.C_alloc ?_ _) | (with_reducible refine Kd.C_drewN ?_ _) | (with_reducible refine Kd.C_drew ?_))); (case side2 => exact (Kd.R_reads' HO297.out).2.1); rintro e w12 ⟨v300, rfl, ho0, hb⟩; refine ⟨_, rfl, ?_⟩; have n0_ := Aside0.mk (Kd.R_elder' (by (with_reducible repeat (first | apply Kd.R_alloc | apply Kd.R_drewN | apply Kd.R_drew)); exact HO297.out) (Kd.R_base ho0) hb); have n1_ := Aside0.mk (Kd.R_lower (Kd.R_new' ho0 (Kd.R_lt (by (with_reducible repeat (first | apply Kd.R_alloc | apply Kd.R_drewN | apply Kd.R_drew)); exact HO297.out))) (below_size (by repeat (first | (with_reducible first | exact HB.out | apply below_alloc | apply pw_below_drewN | apply below_drew1) | exact HB.out)))); have n2_ := Aside0.mk (below_step (by repeat (first | (with_reducible first | exact HB.out | apply below_alloc | apply pw_below_drewN | apply below_drew1) | exact HB.out)) hb); clear HO297; clear HB; have HO297 := n0_; have HO301 := n1_; have HB := n2_; clear n0_ n1_ n2_; (try clear hb); (try clear hb2); (try clear hk); (try clear hi); (try clear ho0); obtain ⟨Ao13, co13, eo13⟩ := Kd.R_slice HO301.out; subst eo13) | ((with_reducible refine gate_callee (f := 14) rfl ?_); refine goesL_ (some 45) rfl rfl Try.func14 (by kernel_rfl) rfl #[.slice Ao11 y295.length co11, .slice Ao13 t298.length co13] rfl (by (try simp only [List.map_toArray, List.map_cons, List.map_nil]); first | done | rfl | (simp only [List.length_drop, List.length_take]; rfl)) ?_; (with_reducible refine (tree_Cost.calls _ _ y295 _ _ t298 t302 t303 _ ?side1 ?side2 ?side3 ?side4 A6.out).mono ?_); (case side1 => repeat (first | exact (Kd.R_reads' HO297.out).2.2 | (with_reducible refine Kd.C_alloc ?_ _) | (with_reducible refine Kd.C_drewN ?_ _) | (with_reducible refine Kd.C_drew ?_))); (case side2 => exact (Kd.R_reads' HO297.out).2.1); (case side3 => repeat (first | exact (Kd.R_reads' HO301.out).2.2 | (with_reducible refine Kd.C_alloc ?_ _) | (with_reducible refine Kd.C_drewN ?_ _) | (with_reducible refine Kd.C_drew ?_))); (case side4 => exact (Kd.R_reads' HO301.out).2.1); rintro e w14 ⟨rfl, hb⟩; refine ⟨_, rfl, ?_⟩; have n0_ := Aside0.mk (Kd.R_below (by (with_reducible repeat (first | apply Kd.R_alloc | apply Kd.R_drewN | apply Kd.R_drew)); exact HO297.out) hb); have n1_ := Aside0.mk (Kd.R_below (by (with_reducible repeat (first | apply Kd.R_alloc | apply Kd.R_drewN | apply Kd.R_drew)); exact HO301.out) hb); have n2_ := Aside0.mk (below_step (by repeat (first | (with_reducible first | exact HB.out | apply below_alloc | apply pw_below_drewN | apply below_drew1) | exact HB.out)) hb); clear HO297; clear HO301; clear HB; have HO297 := n0_; have HO301 := n1_; have HB := n2_; clear n0_ n1_ n2_; (try clear hb); (try clear hb2); (try clear hk); (try clear hi)) | ((with_reducible refine gate_dst (N := 50) rfl ?_); (try (refine gate_guard (by rfl) ?_; dsimp only)); refine Kd.R_lit (Kd.int .i64) _ 3 ?hg (N := 50) ?hd (xs := ([0, wrap64 (1 + (wrap64 (Int.tmod (IntKind.u64.wrap (a0)) 1000))), 0] : List Int)) (inner := [.int .i64 0, .int .i64 (wrap64 (1 + (wrap64 (Int.tmod (IntKind.u64.wrap (a0)) 1000)))), .int .i64 0]) (ok := fun _ => True) (okp := fun _ => True) ?hr ?hp (fun _ hk => hk) trivial (Below.refl _ _) (Nat.le_refl _) (by simp) ?_; (case hd => rfl); (case hg => rfl); (case hr => first | (go_simp; done) | (go_simp; rfl)); (case hp => exact (Reps.one (show Kd.M (Kd.int .i64) _ _ _ 0 [.int .i64 0] from rfl) (Reps.one (show Kd.M (Kd.int .i64) _ _ _ (wrap64 (1 + (wrap64 (Int.tmod (IntKind.u64.wrap (a0)) 1000)))) [.int .i64 (wrap64 (1 + (wrap64 (Int.tmod (IntKind.u64.wrap (a0)) 1000))))] from rfl) (Reps.one (show Kd.M (Kd.int .i64) _ _ _ 0 [.int .i64 0] from rfl) (Reps.none _ _))))); intro v305 w15 ho16 hb hg_ hnew_; clear hg_ hnew_; (first | rw [← Ny304.out] at ho16 | (simp only [Int.reduceToNat] at ho16; rw [← Ny304.out] at ho16)); have n0_ := Aside0.mk (Kd.R_elder' (by (with_reducible repeat (first | apply Kd.R_alloc | apply Kd.R_drewN | apply Kd.R_drew)); exact HO297.out) (Kd.R_base ho16) hb); have n1_ := Aside0.mk (Kd.R_elder' (by (with_reducible repeat (first | apply Kd.R_alloc | apply Kd.R_drewN | apply Kd.R_drew)); exact HO301.out) (Kd.R_base ho16) hb); have n2_ := Aside0.mk (Kd.R_lower (Kd.R_new' (Kd.R_new' ho16 (Kd.R_lt (by (with_reducible repeat (first | apply Kd.R_alloc | apply Kd.R_drewN | apply Kd.R_drew)); exact HO297.out))) (Kd.R_lt (by (with_reducible repeat (first | apply Kd.R_alloc | apply Kd.R_drewN | apply Kd.R_drew)); exact HO301.out))) (below_size (by repeat (first | (with_reducible first | exact HB.out | apply below_alloc | apply pw_below_drewN | apply below_drew1) | exact HB.out)))); have n3_ := Aside0.mk (below_step (by repeat (first | (with_reducible first | exact HB.out | apply below_alloc | apply pw_below_drewN | apply below_drew1) | exact HB.out)) hb); clear HO297; clear HO301; clear HB; have HO297 := n0_; have HO301 := n1_; have HO306 := n2_; have HB := n3_; clear n0_ n1_ n2_ n3_; clear hb ho16; obtain ⟨Ao17, co17, eo17⟩ := Kd.R_slice HO306.out; subst eo17) | ((with_reducible refine gate_callee (f := 12) rfl ?_); refine goesL_ (some 51) rfl rfl Try.func12 (by kernel_rfl) rfl #[.slice Ao17 y304.length co17, .int .i64 15] rfl (by (try simp only [List.map_toArray, List.map_cons, List.map_nil]); first | done | rfl | (simp only [List.length_drop, List.length_take]; rfl)) ?_; (with_reducible refine (tree_Lengths.calls _ _ y304 15 t307 t308 _ ?side1 ?side2 A7.out).mono ?_); (case side1 => repeat (first | exact (Kd.R_reads' HO306.out).2.2 | (with_reducible refine Kd.C_alloc ?_ _) | (with_reducible refine Kd.C_drewN ?_ _) | (with_reducible refine Kd.C_drew ?_))); (case side2 => exact (Kd.R_reads' HO306.out).2.1); rintro e w18 ⟨v309, rfl, ho0, hb⟩; refine ⟨_, rfl, ?_⟩; have n0_ := Aside0.mk (Kd.R_elder' (by (with_reducible repeat (first | apply Kd.R_alloc | apply Kd.R_drewN | apply Kd.R_drew)); exact HO297.out) (Kd.R_base ho0) hb); have n1_ := Aside0.mk (Kd.R_elder' (by (with_reducible repeat (first | apply Kd.R_alloc | apply Kd.R_drewN | apply Kd.R_drew)); exact HO301.out) (Kd.R_base ho0) hb); have n2_ := Aside0.mk (Kd.R_elder' (by (with_reducible repeat (first | apply Kd.R_alloc | apply Kd.R_drewN | apply Kd.R_drew)); exact HO306.out) (Kd.R_base ho0) hb); have n3_ := Aside0.mk (Kd.R_lower (Kd.R_new' (Kd.R_new' (Kd.R_new' ho0 (Kd.R_lt (by (with_reducible repeat (first | apply Kd.R_alloc | apply Kd.R_drewN | apply Kd.R_drew)); exact HO297.out))) (Kd.R_lt (by (with_reducible repeat (first | apply Kd.R_alloc | apply Kd.R_drewN | apply Kd.R_drew)); exact HO301.out))) (Kd.R_lt (by (with_reducible repeat (first | apply Kd.R_alloc | apply Kd.R_drewN | apply Kd.R_drew)); exact HO306.out))) (below_size (by repeat (first | (with_reducible first | exact HB.out | apply below_alloc | apply pw_below_drewN | apply below_drew1) | exact HB.out)))); have n4_ := Aside0.mk (below_step (by repeat (first | (with_reducible first | exact HB.out | apply below_alloc | apply pw_below_drewN | apply below_drew1) | exact HB.out)) hb); clear HO297; clear HO301; clear HO306; clear HB; have HO297 := n0_; have HO301 := n1_; have HO306 := n2_; have HO310 := n3_; have HB := n4_; clear n0_ n1_ n2_ n3_ n4_; (try clear hb); (try clear hb2); (try clear hk); (try clear hi); (try clear ho0)))
  (try simp only [Act.put, List.setIfInBounds_toArray, List.set_cons_zero, List.set_cons_succ])
  go_cut [90] (fun v90 wc => ∃ (kq : Nat) (x90_7 : Bool), v90 = .bool x90_7 ∧ Aside0 (wherrylaw03_TreeLeast.j0 kq l3 y295 t302 x90_7 = some r) ∧ Aside0 (kq ≤ k) ∧ Aside0 (Kd.R (Kd.int .i64) 3 wc w.heap.size (fun _ => True) (.slice Ao11 y295.length co11) y295) ∧ Aside0 (Below w.heap.size w wc))
  case first =>
    have H := HC8.out
    clear HC8
    by_cases c19 : t299 = 0
    · rw [if_pos c19] at H
      have c19b0 : (t299 == 0) = true := beq_iff_eq.mpr c19
      have c19b1 : (t299 != 0) = false := bne_eq_false_iff_eq.mpr c19
      clear c19
      (first | rw [c19b0] | (simp only [i64_w, i32_w]; rw [c19b0]) | skip)
      by_cases c20 : t303 = 0
      · rw [if_pos c20] at H
        have c20b0 : (t303 == 0) = true := beq_iff_eq.mpr c20
        have c20b1 : (t303 != 0) = false := bne_eq_false_iff_eq.mpr c20
        clear c20
        by_cases c21 : t308 = 0
        · rw [if_pos c21] at H
          have c21b0 : (t308 == 0) = true := beq_iff_eq.mpr c21
          have c21b1 : (t308 != 0) = false := bne_eq_false_iff_eq.mpr c21
          clear c21
          obtain ⟨y311, hy311⟩ : ∃ y_ : List Int, y_ = (([0, 1, 0] : List Int)) := ⟨_, rfl⟩
          replace H : ((wherrykeep_Ints.f k t307 y311).bind fun t314 => (if t314 = true then (wherrylaw03_TreeLeast.j0 k l3 y295 t302 (t302 != (wrap64 ((wrap64 ((wrap64 ((wrap64 ((wrap64 ((wrap64 ((wrap64 (1 + (wrap64 (Int.tmod (IntKind.u64.wrap (a0)) 1000)))) + (wrap64 (1 + (wrap64 (Int.tmod (IntKind.u64.wrap (a1)) 1000)))))) + (wrap64 (1 + (wrap64 (Int.tmod (IntKind.u64.wrap (a2)) 1000)))))) + (wrap64 (1 + (wrap64 (Int.tmod (IntKind.u64.wrap (a0)) 1000)))))) + (wrap64 (1 + (wrap64 (Int.tmod (IntKind.u64.wrap (a1)) 1000)))))) + (wrap64 (1 + (wrap64 (Int.tmod (IntKind.u64.wrap (a2)) 1000)))))) - (mx (wrap64 (1 + (wrap64 (Int.tmod (IntKind.u64.wrap (a0)) 1000)))) (mx (wrap64 (1 + (wrap64 (Int.tmod (IntKind.u64.wrap (a1)) 1000)))) (wrap64 (1 + (wrap64 (Int.tmod (IntKind.u64.wrap (a2)) 1000)))))))))) else (wherrylaw03_TreeLeast.j0 k l3 y295 t302 true))) = some r := by first | (rw [hy311]; with_reducible exact H) | (have H2_ := (Option.bind_some _ _).symm.trans H; rw [hy311]; with_reducible exact H2_) | (have H2_ := (Option.bind_some _ _).symm.trans H; with_reducible exact H2_) | with_reducible exact H | (rw [hy311]; exact H) | exact H
          have Ny311 := Aside0.mk hy311
          clear hy311
          replace H := Option.bind_eq_some_iff.mp H
          obtain ⟨t314, A220, H⟩ := H
          replace H : (if t314 = true then (wherrylaw03_TreeLeast.j0 k l3 y295 t302 (t302 != (wrap64 ((wrap64 ((wrap64 ((wrap64 ((wrap64 ((wrap64 ((wrap64 (1 + (wrap64 (Int.tmod (IntKind.u64.wrap (a0)) 1000)))) + (wrap64 (1 + (wrap64 (Int.tmod (IntKind.u64.wrap (a1)) 1000)))))) + (wrap64 (1 + (wrap64 (Int.tmod (IntKind.u64.wrap (a2)) 1000)))))) + (wrap64 (1 + (wrap64 (Int.tmod (IntKind.u64.wrap (a0)) 1000)))))) + (wrap64 (1 + (wrap64 (Int.tmod (IntKind.u64.wrap (a1)) 1000)))))) + (wrap64 (1 + (wrap64 (Int.tmod (IntKind.u64.wrap (a2)) 1000)))))) - (mx (wrap64 (1 + (wrap64 (Int.tmod (IntKind.u64.wrap (a0)) 1000)))) (mx (wrap64 (1 + (wrap64 (Int.tmod (IntKind.u64.wrap (a1)) 1000)))) (wrap64 (1 + (wrap64 (Int.tmod (IntKind.u64.wrap (a2)) 1000)))))))))) else (wherrylaw03_TreeLeast.j0 k l3 y295 t302 true)) = some r := H
          have A22 := Aside0.mk A220
          clear A220
          by_cases c23 : t314 = true
          · subst c23
            have H1 : (wherrylaw03_TreeLeast.j0 k l3 y295 t302 (t302 != (wrap64 ((wrap64 ((wrap64 ((wrap64 ((wrap64 ((wrap64 ((wrap64 (1 + (wrap64 (Int.tmod (IntKind.u64.wrap (a0)) 1000)))) + (wrap64 (1 + (wrap64 (Int.tmod (IntKind.u64.wrap (a1)) 1000)))))) + (wrap64 (1 + (wrap64 (Int.tmod (IntKind.u64.wrap (a2)) 1000)))))) + (wrap64 (1 + (wrap64 (Int.tmod (IntKind.u64.wrap (a0)) 1000)))))) + (wrap64 (1 + (wrap64 (Int.tmod (IntKind.u64.wrap (a1)) 1000)))))) + (wrap64 (1 + (wrap64 (Int.tmod (IntKind.u64.wrap (a2)) 1000)))))) - (mx (wrap64 (1 + (wrap64 (Int.tmod (IntKind.u64.wrap (a0)) 1000)))) (mx (wrap64 (1 + (wrap64 (Int.tmod (IntKind.u64.wrap (a1)) 1000)))) (wrap64 (1 + (wrap64 (Int.tmod (IntKind.u64.wrap (a2)) 1000)))))))))) = some r := by rw [if_pos rfl] at H; exact H
            clear H
            have H := H1
            clear H1
            obtain ⟨ji24, hji24⟩ : ∃ j_ : Int, (mx (wrap64 (1 + (wrap64 (Int.tmod (IntKind.u64.wrap (a1)) 1000)))) (wrap64 (1 + (wrap64 (Int.tmod (IntKind.u64.wrap (a2)) 1000))))) = j_ := ⟨_, rfl⟩
            replace H : (wherrylaw03_TreeLeast.j0 k l3 y295 t302 (t302 != (wrap64 ((wrap64 ((wrap64 ((wrap64 ((wrap64 ((wrap64 ((wrap64 (1 + (wrap64 (Int.tmod (IntKind.u64.wrap (a0)) 1000)))) + (wrap64 (1 + (wrap64 (Int.tmod (IntKind.u64.wrap (a1)) 1000)))))) + (wrap64 (1 + (wrap64 (Int.tmod (IntKind.u64.wrap (a2)) 1000)))))) + (wrap64 (1 + (wrap64 (Int.tmod (IntKind.u64.wrap (a0)) 1000)))))) + (wrap64 (1 + (wrap64 (Int.tmod (IntKind.u64.wrap (a1)) 1000)))))) + (wrap64 (1 + (wrap64 (Int.tmod (IntKind.u64.wrap (a2)) 1000)))))) - (mx (wrap64 (1 + (wrap64 (Int.tmod (IntKind.u64.wrap (a0)) 1000)))) (ji24)))))) = some r := by first | (rw [hji24] at H; exact H) | (simp only [hji24] at H ⊢; exact H)
            (try rw [hji24] at A22)
            have hji24_ : (if (wrap64 (1 + (wrap64 (Int.tmod (IntKind.u64.wrap (a1)) 1000)))) < (wrap64 (1 + (wrap64 (Int.tmod (IntKind.u64.wrap (a2)) 1000)))) then (wrap64 (1 + (wrap64 (Int.tmod (IntKind.u64.wrap (a2)) 1000)))) else (wrap64 (1 + (wrap64 (Int.tmod (IntKind.u64.wrap (a1)) 1000))))) = ji24 := hji24
            obtain ⟨ji25, hji25⟩ : ∃ j_ : Int, (mx (wrap64 (1 + (wrap64 (Int.tmod (IntKind.u64.wrap (a0)) 1000)))) (ji24)) = j_ := ⟨_, rfl⟩
            replace H : (wherrylaw03_TreeLeast.j0 k l3 y295 t302 (t302 != (wrap64 ((wrap64 ((wrap64 ((wrap64 ((wrap64 ((wrap64 ((wrap64 (1 + (wrap64 (Int.tmod (IntKind.u64.wrap (a0)) 1000)))) + (wrap64 (1 + (wrap64 (Int.tmod (IntKind.u64.wrap (a1)) 1000)))))) + (wrap64 (1 + (wrap64 (Int.tmod (IntKind.u64.wrap (a2)) 1000)))))) + (wrap64 (1 + (wrap64 (Int.tmod (IntKind.u64.wrap (a0)) 1000)))))) + (wrap64 (1 + (wrap64 (Int.tmod (IntKind.u64.wrap (a1)) 1000)))))) + (wrap64 (1 + (wrap64 (Int.tmod (IntKind.u64.wrap (a2)) 1000)))))) - (ji25))))) = some r := by first | (rw [hji25] at H; exact H) | (simp only [hji25] at H ⊢; exact H)
            (try rw [hji25] at A22)
            have hji25_ : (if (wrap64 (1 + (wrap64 (Int.tmod (IntKind.u64.wrap (a0)) 1000)))) < (ji24) then (ji24) else (wrap64 (1 + (wrap64 (Int.tmod (IntKind.u64.wrap (a0)) 1000))))) = ji25 := hji25
            have H' := Aside0.mk H
            clear H
            go_wp2_with (first | ((with_reducible refine gate_dst (N := 66) rfl ?_); (try (refine gate_guard (by rfl) ?_; dsimp only)); refine Kd.R_lit (Kd.int .i64) _ 3 ?hg (N := 66) ?hd (xs := ([0, 1, 0] : List Int)) (inner := [.int .i64 0, .int .i64 1, .int .i64 0]) (ok := fun _ => True) (okp := fun _ => True) ?hr ?hp (fun _ hk => hk) trivial (Below.refl _ _) (Nat.le_refl _) (by simp) ?_; (case hd => rfl); (case hg => rfl); (case hr => first | (go_simp; done) | (go_simp; rfl)); (case hp => exact (Reps.one (show Kd.M (Kd.int .i64) _ _ _ 0 [.int .i64 0] from rfl) (Reps.one (show Kd.M (Kd.int .i64) _ _ _ 1 [.int .i64 1] from rfl) (Reps.one (show Kd.M (Kd.int .i64) _ _ _ 0 [.int .i64 0] from rfl) (Reps.none _ _))))); intro v312 w26 ho27 hb hg_ hnew_; clear hg_ hnew_; (first | rw [← Ny311.out] at ho27 | (simp only [Int.reduceToNat] at ho27; rw [← Ny311.out] at ho27)); have n0_ := Aside0.mk (Kd.R_elder' (by (with_reducible repeat (first | apply Kd.R_alloc | apply Kd.R_drewN | apply Kd.R_drew)); exact HO297.out) (Kd.R_base ho27) hb); have n1_ := Aside0.mk (Kd.R_elder' (by (with_reducible repeat (first | apply Kd.R_alloc | apply Kd.R_drewN | apply Kd.R_drew)); exact HO301.out) (Kd.R_base ho27) hb); have n2_ := Aside0.mk (Kd.R_elder' (by (with_reducible repeat (first | apply Kd.R_alloc | apply Kd.R_drewN | apply Kd.R_drew)); exact HO306.out) (Kd.R_base ho27) hb); have n3_ := Aside0.mk (Kd.R_elder' (by (with_reducible repeat (first | apply Kd.R_alloc | apply Kd.R_drewN | apply Kd.R_drew)); exact HO310.out) (Kd.R_base ho27) hb); have n4_ := Aside0.mk (Kd.R_lower (Kd.R_new' (Kd.R_new' (Kd.R_new' (Kd.R_new' ho27 (Kd.R_lt (by (with_reducible repeat (first | apply Kd.R_alloc | apply Kd.R_drewN | apply Kd.R_drew)); exact HO297.out))) (Kd.R_lt (by (with_reducible repeat (first | apply Kd.R_alloc | apply Kd.R_drewN | apply Kd.R_drew)); exact HO301.out))) (Kd.R_lt (by (with_reducible repeat (first | apply Kd.R_alloc | apply Kd.R_drewN | apply Kd.R_drew)); exact HO306.out))) (Kd.R_lt (by (with_reducible repeat (first | apply Kd.R_alloc | apply Kd.R_drewN | apply Kd.R_drew)); exact HO310.out))) (below_size (by repeat (first | (with_reducible first | exact HB.out | apply below_alloc | apply pw_below_drewN | apply below_drew1) | exact HB.out)))); have n5_ := Aside0.mk (below_step (by repeat (first | (with_reducible first | exact HB.out | apply below_alloc | apply pw_below_drewN | apply below_drew1) | exact HB.out)) hb); clear HO297; clear HO301; clear HO306; clear HO310; clear HB; have HO297 := n0_; have HO301 := n1_; have HO306 := n2_; have HO310 := n3_; have HO313 := n4_; have HB := n5_; clear n0_ n1_ n2_ n3_ n4_ n5_; clear hb ho27; obtain ⟨Ao28, co28, eo28⟩ := Kd.R_slice HO310.out; subst eo28; obtain ⟨Ao29, co29, eo29⟩ := Kd.R_slice HO313.out; subst eo29) | (go_at_call 16; (with_reducible refine (wherrykeep_Ints.calls k _ _ t307 _ _ y311 true _ ?side1 ?side2 ?side3 ?side4 A22.out).mono ?_); (case side1 => repeat (first | exact (Kd.R_reads' HO310.out).2.2 | (with_reducible refine Kd.C_alloc ?_ _) | (with_reducible refine Kd.C_drewN ?_ _) | (with_reducible refine Kd.C_drew ?_))); (case side2 => exact (Kd.R_reads' HO310.out).2.1); (case side3 => repeat (first | exact (Kd.R_reads' HO313.out).2.2 | (with_reducible refine Kd.C_alloc ?_ _) | (with_reducible refine Kd.C_drewN ?_ _) | (with_reducible refine Kd.C_drew ?_))); (case side4 => exact (Kd.R_reads' HO313.out).2.1); rintro e w' ⟨rfl, ⟨nd, rfl⟩⟩))
            go_meet
            case rel => exact ⟨_, ((t302 != (wrap64 ((wrap64 ((wrap64 ((wrap64 ((wrap64 ((wrap64 ((wrap64 (1 + (wrap64 (Int.tmod (IntKind.u64.wrap (a0)) 1000)))) + (wrap64 (1 + (wrap64 (Int.tmod (IntKind.u64.wrap (a1)) 1000)))))) + (wrap64 (1 + (wrap64 (Int.tmod (IntKind.u64.wrap (a2)) 1000)))))) + (wrap64 (1 + (wrap64 (Int.tmod (IntKind.u64.wrap (a0)) 1000)))))) + (wrap64 (1 + (wrap64 (Int.tmod (IntKind.u64.wrap (a1)) 1000)))))) + (wrap64 (1 + (wrap64 (Int.tmod (IntKind.u64.wrap (a2)) 1000)))))) - (ji25))))), (by first | rfl | (simp; done) | (simp only [← hji25] <;> (first | rfl | simp)) | (simp [*]; done)), H', ⟨by first | omega | exact Nat.le_refl _⟩, ⟨by (with_reducible repeat (first | apply Kd.R_alloc | apply Kd.R_drewN | apply Kd.R_drew)); exact Kd.R_mono HO297.out (fun _ hk => trivial)⟩, ⟨by repeat (first | (with_reducible first | exact HB.out | apply below_alloc | apply pw_below_drewN | apply below_drew1) | exact HB.out)⟩⟩
          · replace c23 := Bool.eq_false_iff.mpr c23
            subst c23
            have H1 : (wherrylaw03_TreeLeast.j0 k l3 y295 t302 true) = some r := by rw [if_neg (show ¬ (false = true) by decide)] at H; exact H
            clear H
            have H := H1
            clear H1
            have H' := Aside0.mk H
            clear H
            go_wp2_with (first | ((with_reducible refine gate_dst (N := 66) rfl ?_); (try (refine gate_guard (by rfl) ?_; dsimp only)); refine Kd.R_lit (Kd.int .i64) _ 3 ?hg (N := 66) ?hd (xs := ([0, 1, 0] : List Int)) (inner := [.int .i64 0, .int .i64 1, .int .i64 0]) (ok := fun _ => True) (okp := fun _ => True) ?hr ?hp (fun _ hk => hk) trivial (Below.refl _ _) (Nat.le_refl _) (by simp) ?_; (case hd => rfl); (case hg => rfl); (case hr => first | (go_simp; done) | (go_simp; rfl)); (case hp => exact (Reps.one (show Kd.M (Kd.int .i64) _ _ _ 0 [.int .i64 0] from rfl) (Reps.one (show Kd.M (Kd.int .i64) _ _ _ 1 [.int .i64 1] from rfl) (Reps.one (show Kd.M (Kd.int .i64) _ _ _ 0 [.int .i64 0] from rfl) (Reps.none _ _))))); intro v312 w30 ho31 hb hg_ hnew_; clear hg_ hnew_; (first | rw [← Ny311.out] at ho31 | (simp only [Int.reduceToNat] at ho31; rw [← Ny311.out] at ho31)); have n0_ := Aside0.mk (Kd.R_elder' (by (with_reducible repeat (first | apply Kd.R_alloc | apply Kd.R_drewN | apply Kd.R_drew)); exact HO297.out) (Kd.R_base ho31) hb); have n1_ := Aside0.mk (Kd.R_elder' (by (with_reducible repeat (first | apply Kd.R_alloc | apply Kd.R_drewN | apply Kd.R_drew)); exact HO301.out) (Kd.R_base ho31) hb); have n2_ := Aside0.mk (Kd.R_elder' (by (with_reducible repeat (first | apply Kd.R_alloc | apply Kd.R_drewN | apply Kd.R_drew)); exact HO306.out) (Kd.R_base ho31) hb); have n3_ := Aside0.mk (Kd.R_elder' (by (with_reducible repeat (first | apply Kd.R_alloc | apply Kd.R_drewN | apply Kd.R_drew)); exact HO310.out) (Kd.R_base ho31) hb); have n4_ := Aside0.mk (Kd.R_lower (Kd.R_new' (Kd.R_new' (Kd.R_new' (Kd.R_new' ho31 (Kd.R_lt (by (with_reducible repeat (first | apply Kd.R_alloc | apply Kd.R_drewN | apply Kd.R_drew)); exact HO297.out))) (Kd.R_lt (by (with_reducible repeat (first | apply Kd.R_alloc | apply Kd.R_drewN | apply Kd.R_drew)); exact HO301.out))) (Kd.R_lt (by (with_reducible repeat (first | apply Kd.R_alloc | apply Kd.R_drewN | apply Kd.R_drew)); exact HO306.out))) (Kd.R_lt (by (with_reducible repeat (first | apply Kd.R_alloc | apply Kd.R_drewN | apply Kd.R_drew)); exact HO310.out))) (below_size (by repeat (first | (with_reducible first | exact HB.out | apply below_alloc | apply pw_below_drewN | apply below_drew1) | exact HB.out)))); have n5_ := Aside0.mk (below_step (by repeat (first | (with_reducible first | exact HB.out | apply below_alloc | apply pw_below_drewN | apply below_drew1) | exact HB.out)) hb); clear HO297; clear HO301; clear HO306; clear HO310; clear HB; have HO297 := n0_; have HO301 := n1_; have HO306 := n2_; have HO310 := n3_; have HO313 := n4_; have HB := n5_; clear n0_ n1_ n2_ n3_ n4_ n5_; clear hb ho31; obtain ⟨Ao32, co32, eo32⟩ := Kd.R_slice HO310.out; subst eo32; obtain ⟨Ao33, co33, eo33⟩ := Kd.R_slice HO313.out; subst eo33) | (go_at_call 16; (with_reducible refine (wherrykeep_Ints.calls k _ _ t307 _ _ y311 false _ ?side1 ?side2 ?side3 ?side4 A22.out).mono ?_); (case side1 => repeat (first | exact (Kd.R_reads' HO310.out).2.2 | (with_reducible refine Kd.C_alloc ?_ _) | (with_reducible refine Kd.C_drewN ?_ _) | (with_reducible refine Kd.C_drew ?_))); (case side2 => exact (Kd.R_reads' HO310.out).2.1); (case side3 => repeat (first | exact (Kd.R_reads' HO313.out).2.2 | (with_reducible refine Kd.C_alloc ?_ _) | (with_reducible refine Kd.C_drewN ?_ _) | (with_reducible refine Kd.C_drew ?_))); (case side4 => exact (Kd.R_reads' HO313.out).2.1); rintro e w' ⟨rfl, ⟨nd, rfl⟩⟩))
            go_meet
            case rel => exact ⟨_, (true), (by first | rfl | (simp; done) | (simp [*]; done)), H', ⟨by first | omega | exact Nat.le_refl _⟩, ⟨by (with_reducible repeat (first | apply Kd.R_alloc | apply Kd.R_drewN | apply Kd.R_drew)); exact Kd.R_mono HO297.out (fun _ hk => trivial)⟩, ⟨by repeat (first | (with_reducible first | exact HB.out | apply below_alloc | apply pw_below_drewN | apply below_drew1) | exact HB.out)⟩⟩
        · rw [if_neg c21] at H
          have c21b0 : (t308 == 0) = false := beq_eq_false_iff_ne.mpr c21
          have c21b1 : (t308 != 0) = true := bne_iff_ne.mpr c21
          have H' := Aside0.mk H
          clear H
          go_wp2
          go_meet
          case rel => exact ⟨_, (true), (by first | rfl | (simp; done) | (simp [*]; done)), H', ⟨by first | omega | exact Nat.le_refl _⟩, ⟨by (with_reducible repeat (first | apply Kd.R_alloc | apply Kd.R_drewN | apply Kd.R_drew)); exact Kd.R_mono HO297.out (fun _ hk => trivial)⟩, ⟨by repeat (first | (with_reducible first | exact HB.out | apply below_alloc | apply pw_below_drewN | apply below_drew1) | exact HB.out)⟩⟩
      · rw [if_neg c20] at H
        have c20b0 : (t303 == 0) = false := beq_eq_false_iff_ne.mpr c20
        have c20b1 : (t303 != 0) = true := bne_iff_ne.mpr c20
        have H' := Aside0.mk H
        clear H
        go_wp2
        go_meet
        case rel => exact ⟨_, (true), (by first | rfl | (simp; done) | (simp [*]; done)), H', ⟨by first | omega | exact Nat.le_refl _⟩, ⟨by (with_reducible repeat (first | apply Kd.R_alloc | apply Kd.R_drewN | apply Kd.R_drew)); exact Kd.R_mono HO297.out (fun _ hk => trivial)⟩, ⟨by repeat (first | (with_reducible first | exact HB.out | apply below_alloc | apply pw_below_drewN | apply below_drew1) | exact HB.out)⟩⟩
    · rw [if_neg c19] at H
      have c19b0 : (t299 == 0) = false := beq_eq_false_iff_ne.mpr c19
      have c19b1 : (t299 != 0) = true := bne_iff_ne.mpr c19
      (first | rw [c19b0] | (simp only [i64_w, i32_w]; rw [c19b0]) | skip)
      have H' := Aside0.mk H
      clear H
      go_wp2
      go_meet
      case rel => exact ⟨_, (true), (by first | rfl | (simp; done) | (simp [*]; done)), H', ⟨by first | omega | exact Nat.le_refl _⟩, ⟨by (with_reducible repeat (first | apply Kd.R_alloc | apply Kd.R_drewN | apply Kd.R_drew)); exact Kd.R_mono HO297.out (fun _ hk => trivial)⟩, ⟨by repeat (first | (with_reducible first | exact HB.out | apply below_alloc | apply pw_below_drewN | apply below_drew1) | exact HB.out)⟩⟩
  case rest =>
    clear HC8
    try clear c1
    try clear c2
    try clear p2
    try clear c3
    try clear p6
    try clear c9
    try clear c12
    try clear c14
    try clear c19
    try clear c19b0
    try clear c19b1
    try clear c20
    try clear c20b0
    try clear c20b1
    try clear c21
    try clear c21b0
    try clear c21b1
    try clear c23
    obtain ⟨kq, x90_7, rfl, HA, HJ7, HO_9, HB⟩ := hcut
    cases kq with
    | zero => exact absurd HA.out (by simp [wherrylaw03_TreeLeast.j0])
    | succ kj7 =>
      have H := HA.out
      clear HA
      simp only [wherrylaw03_TreeLeast.j0] at H
      by_cases c34 : x90_7 = true
      · subst c34
        have H1 : (some false) = some r := by rw [if_pos rfl] at H; exact H
        clear H
        have H := H1
        clear H1
        obtain rfl := Option.some.inj H
        go_wp2
        go_ret
        exact ⟨by first | rfl | (simp [errW_none, errW_some] <;> rfl) | (simp [*, errW_none, errW_some] <;> rfl), by repeat (first | (with_reducible first | exact HB.out | apply below_alloc | apply pw_below_drewN | apply below_drew1) | exact HB.out)⟩
      · replace c34 := Bool.eq_false_iff.mpr c34
        subst c34
        have H1 : (if (l3.length : Int) = 3 then (if 0 < (l3.length : Int) then (if (rd l3 0) < 1 then (wherrylaw03_TreeLeast.j1 kj7 l3 y295 t302 true) else (if 1 < (l3.length : Int) then (if (rd l3 1) < 1 then (wherrylaw03_TreeLeast.j1 kj7 l3 y295 t302 true) else (if 2 < (l3.length : Int) then (if (rd l3 2) < 1 then (wherrylaw03_TreeLeast.j1 kj7 l3 y295 t302 true) else ((canon_Check.f l3).bind fun t318 => (wherrylaw03_TreeLeast.j1 kj7 l3 y295 t302 (t318 != 0)))) else (none))) else (none))) else (none)) else (wherrylaw03_TreeLeast.j1 kj7 l3 y295 t302 true)) = some r := by rw [if_neg (show ¬ (false = true) by decide)] at H; exact H
        clear H
        have H := H1
        clear H1
        have HC35 := Aside0.mk H
        clear H
        go_upto_region 8 with (fail)
        go_cut [116] (fun v116 wc => ∃ (kq : Nat) (x116_34 : Bool), v116 = .bool x116_34 ∧ Aside0 (wherrylaw03_TreeLeast.j1 kq l3 y295 t302 x116_34 = some r) ∧ Aside0 (kq ≤ kj7) ∧ Aside0 (Kd.R (Kd.int .i64) 3 wc w.heap.size (fun _ => True) (.slice Ao11 y295.length co11) y295) ∧ Aside0 (Below w.heap.size w wc))
        case first =>
          have H := HC35.out
          clear HC35
          by_cases c36 : (l3.length : Int) = 3
          · rw [if_pos c36] at H
            have c36b0 : ((l3.length : Int) == 3) = true := beq_iff_eq.mpr c36
            have c36b1 : ((l3.length : Int) != 3) = false := bne_eq_false_iff_eq.mpr c36
            clear c36
            (first | rw [c36b0] | (simp only [i64_w, i32_w]; rw [c36b0]) | skip)
            by_cases c37 : 0 < (l3.length : Int)
            · rw [if_pos c37] at H
              have c37b0 : decide (0 < (l3.length : Int)) = true := decide_eq_true c37
              have c37b1 : decide (0 < l3.length) = true := decide_eq_true (by omega)
              clear c37
              by_cases c38 : (rd l3 0) < 1
              · rw [if_pos c38] at H
                have c38b0 : decide ((rd l3 0) < 1) = true := decide_eq_true c38
                clear c38
                have H' := Aside0.mk H
                clear H
                have p315 : 0 ≤ (0 : Int) := (by omega)
                have q315 : 0 < (l3.length : Int) := of_decide_eq_true (by first | (with_reducible assumption) | assumption)
                obtain ⟨ad315, e315, hx315_0⟩ := Kd.at_int HR3.out 0 p315 q315
                cases e315
                have qi315 : (0 < l3.length) = True := eq_true (by omega)
                (try rw [show ((0 : Int)).toNat = 0 from rfl] at hx315_0)
                (try rw [Addr.add_zero'] at hx315_0)
                replace hx315_0 := (HB.out.cell (World.block_lt_of_cell? w _ hx315_0)).trans hx315_0
                replace p315 := eq_true p315
                replace q315 := eq_true q315
                go_wp2
                go_meet
                case rel => exact ⟨_, (true), (by first | rfl | (simp; done) | (simp [*]; done)), H', ⟨by have := HJ7.out; first | omega | exact Nat.le_refl _⟩, ⟨by (with_reducible repeat (first | apply Kd.R_alloc | apply Kd.R_drewN | apply Kd.R_drew)); exact HO_9.out⟩, ⟨by repeat (first | (with_reducible first | exact HB.out | apply below_alloc | apply pw_below_drewN | apply below_drew1) | exact HB.out)⟩⟩
              · rw [if_neg c38] at H
                have c38b0 : decide ((rd l3 0) < 1) = false := decide_eq_false c38
                clear c38
                by_cases c39 : 1 < (l3.length : Int)
                · rw [if_pos c39] at H
                  have c39b0 : decide (1 < (l3.length : Int)) = true := decide_eq_true c39
                  have c39b1 : decide (1 < l3.length) = true := decide_eq_true (by omega)
                  clear c39
                  by_cases c40 : (rd l3 1) < 1
                  · rw [if_pos c40] at H
                    have c40b0 : decide ((rd l3 1) < 1) = true := decide_eq_true c40
                    clear c40
                    have H' := Aside0.mk H
                    clear H
                    have p315 : 0 ≤ (0 : Int) := (by omega)
                    have q315 : 0 < (l3.length : Int) := of_decide_eq_true (by first | (with_reducible assumption) | assumption)
                    obtain ⟨ad315, e315, hx315_0⟩ := Kd.at_int HR3.out 0 p315 q315
                    cases e315
                    have qi315 : (0 < l3.length) = True := eq_true (by omega)
                    (try rw [show ((0 : Int)).toNat = 0 from rfl] at hx315_0)
                    (try rw [Addr.add_zero'] at hx315_0)
                    replace hx315_0 := (HB.out.cell (World.block_lt_of_cell? w _ hx315_0)).trans hx315_0
                    replace p315 := eq_true p315
                    replace q315 := eq_true q315
                    have p316 : 0 ≤ (1 : Int) := (by omega)
                    have q316 : 1 < (l3.length : Int) := of_decide_eq_true (by first | (with_reducible assumption) | assumption)
                    obtain ⟨ad316, e316, hx316_0⟩ := Kd.at_int HR3.out 1 p316 q316
                    obtain rfl : ad315 = ad316 := (by injection e316)
                    (try simp only [show (1 : Int).toNat = 1 from rfl, Nat.reduceMul, Nat.reduceEqDiff, Go.Addr.add, ↓reduceIte] at hx316_0)
                    have qi316 : (1 < l3.length) = True := eq_true (by omega)
                    (try rw [show ((1 : Int)).toNat = 1 from rfl] at hx316_0)
                    replace hx316_0 := (HB.out.cell (World.block_lt_of_cell? w _ hx316_0)).trans hx316_0
                    replace p316 := eq_true p316
                    replace q316 := eq_true q316
                    go_wp2
                    go_meet
                    case rel => exact ⟨_, (true), (by first | rfl | (simp; done) | (simp [*]; done)), H', ⟨by have := HJ7.out; first | omega | exact Nat.le_refl _⟩, ⟨by (with_reducible repeat (first | apply Kd.R_alloc | apply Kd.R_drewN | apply Kd.R_drew)); exact HO_9.out⟩, ⟨by repeat (first | (with_reducible first | exact HB.out | apply below_alloc | apply pw_below_drewN | apply below_drew1) | exact HB.out)⟩⟩
                  · rw [if_neg c40] at H
                    have c40b0 : decide ((rd l3 1) < 1) = false := decide_eq_false c40
                    clear c40
                    by_cases c41 : 2 < (l3.length : Int)
                    · rw [if_pos c41] at H
                      have c41b0 : decide (2 < (l3.length : Int)) = true := decide_eq_true c41
                      have c41b1 : decide (2 < l3.length) = true := decide_eq_true (by omega)
                      clear c41
                      by_cases c42 : (rd l3 2) < 1
                      · rw [if_pos c42] at H
                        have c42b0 : decide ((rd l3 2) < 1) = true := decide_eq_true c42
                        clear c42
                        have H' := Aside0.mk H
                        clear H
                        have p315 : 0 ≤ (0 : Int) := (by omega)
                        have q315 : 0 < (l3.length : Int) := of_decide_eq_true (by first | (with_reducible assumption) | assumption)
                        obtain ⟨ad315, e315, hx315_0⟩ := Kd.at_int HR3.out 0 p315 q315
                        cases e315
                        have qi315 : (0 < l3.length) = True := eq_true (by omega)
                        (try rw [show ((0 : Int)).toNat = 0 from rfl] at hx315_0)
                        (try rw [Addr.add_zero'] at hx315_0)
                        replace hx315_0 := (HB.out.cell (World.block_lt_of_cell? w _ hx315_0)).trans hx315_0
                        replace p315 := eq_true p315
                        replace q315 := eq_true q315
                        have p316 : 0 ≤ (1 : Int) := (by omega)
                        have q316 : 1 < (l3.length : Int) := of_decide_eq_true (by first | (with_reducible assumption) | assumption)
                        obtain ⟨ad316, e316, hx316_0⟩ := Kd.at_int HR3.out 1 p316 q316
                        obtain rfl : ad315 = ad316 := (by injection e316)
                        (try simp only [show (1 : Int).toNat = 1 from rfl, Nat.reduceMul, Nat.reduceEqDiff, Go.Addr.add, ↓reduceIte] at hx316_0)
                        have qi316 : (1 < l3.length) = True := eq_true (by omega)
                        (try rw [show ((1 : Int)).toNat = 1 from rfl] at hx316_0)
                        replace hx316_0 := (HB.out.cell (World.block_lt_of_cell? w _ hx316_0)).trans hx316_0
                        replace p316 := eq_true p316
                        replace q316 := eq_true q316
                        have p317 : 0 ≤ (2 : Int) := (by omega)
                        have q317 : 2 < (l3.length : Int) := of_decide_eq_true (by first | (with_reducible assumption) | assumption)
                        obtain ⟨ad317, e317, hx317_0⟩ := Kd.at_int HR3.out 2 p317 q317
                        obtain rfl : ad315 = ad317 := (by injection e317)
                        (try simp only [show (2 : Int).toNat = 2 from rfl, Nat.reduceMul, Nat.reduceEqDiff, Go.Addr.add, ↓reduceIte] at hx317_0)
                        have qi317 : (2 < l3.length) = True := eq_true (by omega)
                        (try rw [show ((2 : Int)).toNat = 2 from rfl] at hx317_0)
                        replace hx317_0 := (HB.out.cell (World.block_lt_of_cell? w _ hx317_0)).trans hx317_0
                        replace p317 := eq_true p317
                        replace q317 := eq_true q317
                        go_wp2
                        go_meet
                        case rel => exact ⟨_, (true), (by first | rfl | (simp; done) | (simp [*]; done)), H', ⟨by have := HJ7.out; first | omega | exact Nat.le_refl _⟩, ⟨by (with_reducible repeat (first | apply Kd.R_alloc | apply Kd.R_drewN | apply Kd.R_drew)); exact HO_9.out⟩, ⟨by repeat (first | (with_reducible first | exact HB.out | apply below_alloc | apply pw_below_drewN | apply below_drew1) | exact HB.out)⟩⟩
                      · rw [if_neg c42] at H
                        have c42b0 : decide ((rd l3 2) < 1) = false := decide_eq_false c42
                        clear c42
                        replace H := Option.bind_eq_some_iff.mp H
                        obtain ⟨t318, A430, H⟩ := H
                        replace H : (wherrylaw03_TreeLeast.j1 kj7 l3 y295 t302 (t318 != 0)) = some r := H
                        have A43 := Aside0.mk A430
                        clear A430
                        have H' := Aside0.mk H
                        clear H
                        have p315 : 0 ≤ (0 : Int) := (by omega)
                        have q315 : 0 < (l3.length : Int) := of_decide_eq_true (by first | (with_reducible assumption) | assumption)
                        obtain ⟨ad315, e315, hx315_0⟩ := Kd.at_int HR3.out 0 p315 q315
                        cases e315
                        have qi315 : (0 < l3.length) = True := eq_true (by omega)
                        (try rw [show ((0 : Int)).toNat = 0 from rfl] at hx315_0)
                        (try rw [Addr.add_zero'] at hx315_0)
                        replace hx315_0 := (HB.out.cell (World.block_lt_of_cell? w _ hx315_0)).trans hx315_0
                        replace p315 := eq_true p315
                        replace q315 := eq_true q315
                        have p316 : 0 ≤ (1 : Int) := (by omega)
                        have q316 : 1 < (l3.length : Int) := of_decide_eq_true (by first | (with_reducible assumption) | assumption)
                        obtain ⟨ad316, e316, hx316_0⟩ := Kd.at_int HR3.out 1 p316 q316
                        obtain rfl : ad315 = ad316 := (by injection e316)
                        (try simp only [show (1 : Int).toNat = 1 from rfl, Nat.reduceMul, Nat.reduceEqDiff, Go.Addr.add, ↓reduceIte] at hx316_0)
                        have qi316 : (1 < l3.length) = True := eq_true (by omega)
                        (try rw [show ((1 : Int)).toNat = 1 from rfl] at hx316_0)
                        replace hx316_0 := (HB.out.cell (World.block_lt_of_cell? w _ hx316_0)).trans hx316_0
                        replace p316 := eq_true p316
                        replace q316 := eq_true q316
                        have p317 : 0 ≤ (2 : Int) := (by omega)
                        have q317 : 2 < (l3.length : Int) := of_decide_eq_true (by first | (with_reducible assumption) | assumption)
                        obtain ⟨ad317, e317, hx317_0⟩ := Kd.at_int HR3.out 2 p317 q317
                        obtain rfl : ad315 = ad317 := (by injection e317)
                        (try simp only [show (2 : Int).toNat = 2 from rfl, Nat.reduceMul, Nat.reduceEqDiff, Go.Addr.add, ↓reduceIte] at hx317_0)
                        have qi317 : (2 < l3.length) = True := eq_true (by omega)
                        (try rw [show ((2 : Int)).toNat = 2 from rfl] at hx317_0)
                        replace hx317_0 := (HB.out.cell (World.block_lt_of_cell? w _ hx317_0)).trans hx317_0
                        replace p317 := eq_true p317
                        replace q317 := eq_true q317
                        go_wp2_with (first | (go_at_call 18; (with_reducible refine (canon_Check.calls _ _ l3 t318 _ ?side1 ?side2 A43.out).mono ?_); (case side1 => repeat (first | exact (Kd.C_below HR3.out HB.out) | (with_reducible refine Kd.C_alloc ?_ _) | (with_reducible refine Kd.C_drewN ?_ _) | (with_reducible refine Kd.C_drew ?_))); (case side2 => exact HC3.out); rintro e w44 ⟨rfl, hb⟩; have n0_ := Aside0.mk (Kd.R_below (by (with_reducible repeat (first | apply Kd.R_alloc | apply Kd.R_drewN | apply Kd.R_drew)); exact HO_9.out) hb); have n1_ := Aside0.mk (below_step (by repeat (first | (with_reducible first | exact HB.out | apply below_alloc | apply pw_below_drewN | apply below_drew1) | exact HB.out)) hb); clear HO_9; clear HB; have HO_9 := n0_; have HB := n1_; clear n0_ n1_; (try clear hb); (try clear hb2); (try clear hk); (try clear hi)))
                        go_meet
                        case rel => exact ⟨_, ((t318 != 0)), (by first | rfl | (simp; done) | (simp [*]; done)), H', ⟨by have := HJ7.out; first | omega | exact Nat.le_refl _⟩, ⟨by (with_reducible repeat (first | apply Kd.R_alloc | apply Kd.R_drewN | apply Kd.R_drew)); exact HO_9.out⟩, ⟨by repeat (first | (with_reducible first | exact HB.out | apply below_alloc | apply pw_below_drewN | apply below_drew1) | exact HB.out)⟩⟩
                    · rw [if_neg c41] at H
                      exact absurd H (by simp)
                · rw [if_neg c39] at H
                  exact absurd H (by simp)
            · rw [if_neg c37] at H
              exact absurd H (by simp)
          · rw [if_neg c36] at H
            have c36b0 : ((l3.length : Int) == 3) = false := beq_eq_false_iff_ne.mpr c36
            have c36b1 : ((l3.length : Int) != 3) = true := bne_iff_ne.mpr c36
            (first | rw [c36b0] | (simp only [i64_w, i32_w]; rw [c36b0]) | skip)
            have H' := Aside0.mk H
            clear H
            go_wp2
            go_meet
            case rel => exact ⟨_, (true), (by first | rfl | (simp; done) | (simp [*]; done)), H', ⟨by have := HJ7.out; first | omega | exact Nat.le_refl _⟩, ⟨by (with_reducible repeat (first | apply Kd.R_alloc | apply Kd.R_drewN | apply Kd.R_drew)); exact HO_9.out⟩, ⟨by repeat (first | (with_reducible first | exact HB.out | apply below_alloc | apply pw_below_drewN | apply below_drew1) | exact HB.out)⟩⟩
        case rest =>
          clear HC35
          try clear c1
          try clear c2
          try clear p2
          try clear c3
          try clear p3
          try clear q3
          try clear hx3
          try clear qi3
          try clear c4
          try clear p6
          try clear c9
          try clear c12
          try clear c14
          try clear c19
          try clear c19b0
          try clear c19b1
          try clear c20
          try clear c20b0
          try clear c20b1
          try clear c21
          try clear c21b0
          try clear c21b1
          try clear c23
          try clear p31
          try clear q31
          try clear hx31
          try clear qi31
          try clear c34
          try clear c36
          try clear c36b0
          try clear c36b1
          try clear c37
          try clear c37b0
          try clear c37b1
          try clear c38
          try clear c38b0
          try clear c39
          try clear c39b0
          try clear c39b1
          try clear c40
          try clear c40b0
          try clear c41
          try clear c41b0
          try clear c41b1
          try clear c42
          try clear c42b0
          try clear hx315_0
          try clear hx316_0
          try clear hx317_0
          try clear p2
          try clear p315
          try clear p316
          try clear p317
          try clear p6
          try clear q315
          try clear q316
          try clear q317
          obtain ⟨kq, x116_34, rfl, HA, HJ34, HO_9, HB⟩ := hcut
          cases kq with
          | zero => exact absurd HA.out (by simp [wherrylaw03_TreeLeast.j1])
          | succ kj34 =>
            have H := HA.out
            clear HA
            simp only [wherrylaw03_TreeLeast.j1] at H
            by_cases c45 : x116_34 = true
            · subst c45
              have H1 : ((wherrylaw03_wakes.f kj34).bind fun t319 => (some t319)) = some r := by rw [if_pos rfl] at H; exact H
              clear H
              have H := H1
              clear H1
              replace H := Option.bind_eq_some_iff.mp H
              obtain ⟨t319, A460, H⟩ := H
              replace H : (some t319) = some r := H
              have A46 := Aside0.mk A460
              clear A460
              obtain rfl := Option.some.inj H
              go_wp2_with (first | ((with_reducible refine gate_callee (f := 17) rfl ?_); refine goesL_ (some 117) rfl rfl Try.func17 (by kernel_rfl) rfl #[] rfl (by (try simp only [List.map_toArray, List.map_cons, List.map_nil]); first | done | rfl | (simp only [List.length_drop, List.length_take]; rfl)) ?_; (with_reducible refine (wherrylaw03_wakes.calls kj34  t319 _ A46.out).mono ?_); rintro e w47 ⟨rfl, hb⟩; refine ⟨_, rfl, ?_⟩; have n0_ := Aside0.mk (Kd.R_below (by (with_reducible repeat (first | apply Kd.R_alloc | apply Kd.R_drewN | apply Kd.R_drew)); exact HO_9.out) hb); have n1_ := Aside0.mk (below_step (by repeat (first | (with_reducible first | exact HB.out | apply below_alloc | apply pw_below_drewN | apply below_drew1) | exact HB.out)) hb); clear HO_9; clear HB; have HO_9 := n0_; have HB := n1_; clear n0_ n1_; (try clear hb); (try clear hb2); (try clear hk); (try clear hi)))
              go_ret
              exact ⟨by first | rfl | (simp [errW_none, errW_some] <;> rfl) | (simp [*, errW_none, errW_some] <;> rfl), by repeat (first | (with_reducible first | exact HB.out | apply below_alloc | apply pw_below_drewN | apply below_drew1) | exact HB.out)⟩
            · replace c45 := Bool.eq_false_iff.mpr c45
              subst c45
              have H1 : ((tree_Cost.f y295 l3).bind fun bt320 => (if bt320.2 = 0 then (if bt320.1 ≥ t302 then ((wherrylaw03_wakes.f kj34).bind fun t322 => (some t322)) else (some false)) else (some false))) = some r := by rw [if_neg (show ¬ (false = true) by decide)] at H; exact H
              clear H
              have H := H1
              clear H1
              replace H := Option.bind_eq_some_iff.mp H
              obtain ⟨⟨t320, t321⟩, A480, H⟩ := H
              replace H : (if t321 = 0 then (if t320 ≥ t302 then ((wherrylaw03_wakes.f kj34).bind fun t322 => (some t322)) else (some false)) else (some false)) = some r := H
              have A48 := Aside0.mk A480
              clear A480
              by_cases c49 : t321 = 0
              · rw [if_pos c49] at H
                have c49b0 : (t321 == 0) = true := beq_iff_eq.mpr c49
                have c49b1 : (t321 != 0) = false := bne_eq_false_iff_eq.mpr c49
                clear c49
                by_cases c50 : t320 ≥ t302
                · rw [if_pos c50] at H
                  have c50b0 : decide (t302 ≤ t320) = true := decide_eq_true c50
                  clear c50
                  replace H := Option.bind_eq_some_iff.mp H
                  obtain ⟨t322, A510, H⟩ := H
                  replace H : (some t322) = some r := H
                  have A51 := Aside0.mk A510
                  clear A510
                  obtain rfl := Option.some.inj H
                  go_wp2_with (first | ((with_reducible refine gate_callee (f := 14) rfl ?_); refine goesL_ (some 121) rfl rfl Try.func14 (by kernel_rfl) rfl #[.slice Ao11 y295.length co11, .slice A3 l3.length c3] rfl (by (try simp only [List.map_toArray, List.map_cons, List.map_nil]); first | done | rfl | (simp only [List.length_drop, List.length_take]; rfl)) ?_; (with_reducible refine (tree_Cost.calls _ _ y295 _ _ l3 t320 t321 _ ?side1 ?side2 ?side3 ?side4 A48.out).mono ?_); (case side1 => repeat (first | exact (Kd.R_reads' HO_9.out).2.2 | (with_reducible refine Kd.C_alloc ?_ _) | (with_reducible refine Kd.C_drewN ?_ _) | (with_reducible refine Kd.C_drew ?_))); (case side2 => exact (Kd.R_reads' HO_9.out).2.1); (case side3 => repeat (first | exact (Kd.C_below HR3.out HB.out) | (with_reducible refine Kd.C_alloc ?_ _) | (with_reducible refine Kd.C_drewN ?_ _) | (with_reducible refine Kd.C_drew ?_))); (case side4 => exact HC3.out); rintro e w52 ⟨rfl, hb⟩; refine ⟨_, rfl, ?_⟩; have n0_ := Aside0.mk (Kd.R_below (by (with_reducible repeat (first | apply Kd.R_alloc | apply Kd.R_drewN | apply Kd.R_drew)); exact HO_9.out) hb); have n1_ := Aside0.mk (below_step (by repeat (first | (with_reducible first | exact HB.out | apply below_alloc | apply pw_below_drewN | apply below_drew1) | exact HB.out)) hb); clear HO_9; clear HB; have HO_9 := n0_; have HB := n1_; clear n0_ n1_; (try clear hb); (try clear hb2); (try clear hk); (try clear hi)) | (go_at_call 17; (with_reducible refine (wherrylaw03_wakes.calls kj34  t322 _ A51.out).mono ?_); rintro e w53 ⟨rfl, hb⟩; have n0_ := Aside0.mk (Kd.R_below (by (with_reducible repeat (first | apply Kd.R_alloc | apply Kd.R_drewN | apply Kd.R_drew)); exact HO_9.out) hb); have n1_ := Aside0.mk (below_step (by repeat (first | (with_reducible first | exact HB.out | apply below_alloc | apply pw_below_drewN | apply below_drew1) | exact HB.out)) hb); clear HO_9; clear HB; have HO_9 := n0_; have HB := n1_; clear n0_ n1_; (try clear hb); (try clear hb2); (try clear hk); (try clear hi)))
                  go_ret
                  exact ⟨by first | rfl | (simp [errW_none, errW_some] <;> rfl) | (simp [*, errW_none, errW_some] <;> rfl), by repeat (first | (with_reducible first | exact HB.out | apply below_alloc | apply pw_below_drewN | apply below_drew1) | exact HB.out)⟩
                · rw [if_neg c50] at H
                  have c50b0 : decide (t302 ≤ t320) = false := decide_eq_false c50
                  clear c50
                  obtain rfl := Option.some.inj H
                  go_wp2_with (first | ((with_reducible refine gate_callee (f := 14) rfl ?_); refine goesL_ (some 121) rfl rfl Try.func14 (by kernel_rfl) rfl #[.slice Ao11 y295.length co11, .slice A3 l3.length c3] rfl (by (try simp only [List.map_toArray, List.map_cons, List.map_nil]); first | done | rfl | (simp only [List.length_drop, List.length_take]; rfl)) ?_; (with_reducible refine (tree_Cost.calls _ _ y295 _ _ l3 t320 t321 _ ?side1 ?side2 ?side3 ?side4 A48.out).mono ?_); (case side1 => repeat (first | exact (Kd.R_reads' HO_9.out).2.2 | (with_reducible refine Kd.C_alloc ?_ _) | (with_reducible refine Kd.C_drewN ?_ _) | (with_reducible refine Kd.C_drew ?_))); (case side2 => exact (Kd.R_reads' HO_9.out).2.1); (case side3 => repeat (first | exact (Kd.C_below HR3.out HB.out) | (with_reducible refine Kd.C_alloc ?_ _) | (with_reducible refine Kd.C_drewN ?_ _) | (with_reducible refine Kd.C_drew ?_))); (case side4 => exact HC3.out); rintro e w54 ⟨rfl, hb⟩; refine ⟨_, rfl, ?_⟩; have n0_ := Aside0.mk (Kd.R_below (by (with_reducible repeat (first | apply Kd.R_alloc | apply Kd.R_drewN | apply Kd.R_drew)); exact HO_9.out) hb); have n1_ := Aside0.mk (below_step (by repeat (first | (with_reducible first | exact HB.out | apply below_alloc | apply pw_below_drewN | apply below_drew1) | exact HB.out)) hb); clear HO_9; clear HB; have HO_9 := n0_; have HB := n1_; clear n0_ n1_; (try clear hb); (try clear hb2); (try clear hk); (try clear hi)))
                  go_ret
                  exact ⟨by first | rfl | (simp [errW_none, errW_some] <;> rfl) | (simp [*, errW_none, errW_some] <;> rfl), by repeat (first | (with_reducible first | exact HB.out | apply below_alloc | apply pw_below_drewN | apply below_drew1) | exact HB.out)⟩
              · rw [if_neg c49] at H
                have c49b0 : (t321 == 0) = false := beq_eq_false_iff_ne.mpr c49
                have c49b1 : (t321 != 0) = true := bne_iff_ne.mpr c49
                obtain rfl := Option.some.inj H
                go_wp2_with (first | ((with_reducible refine gate_callee (f := 14) rfl ?_); refine goesL_ (some 121) rfl rfl Try.func14 (by kernel_rfl) rfl #[.slice Ao11 y295.length co11, .slice A3 l3.length c3] rfl (by (try simp only [List.map_toArray, List.map_cons, List.map_nil]); first | done | rfl | (simp only [List.length_drop, List.length_take]; rfl)) ?_; (with_reducible refine (tree_Cost.calls _ _ y295 _ _ l3 t320 t321 _ ?side1 ?side2 ?side3 ?side4 A48.out).mono ?_); (case side1 => repeat (first | exact (Kd.R_reads' HO_9.out).2.2 | (with_reducible refine Kd.C_alloc ?_ _) | (with_reducible refine Kd.C_drewN ?_ _) | (with_reducible refine Kd.C_drew ?_))); (case side2 => exact (Kd.R_reads' HO_9.out).2.1); (case side3 => repeat (first | exact (Kd.C_below HR3.out HB.out) | (with_reducible refine Kd.C_alloc ?_ _) | (with_reducible refine Kd.C_drewN ?_ _) | (with_reducible refine Kd.C_drew ?_))); (case side4 => exact HC3.out); rintro e w55 ⟨rfl, hb⟩; refine ⟨_, rfl, ?_⟩; have n0_ := Aside0.mk (Kd.R_below (by (with_reducible repeat (first | apply Kd.R_alloc | apply Kd.R_drewN | apply Kd.R_drew)); exact HO_9.out) hb); have n1_ := Aside0.mk (below_step (by repeat (first | (with_reducible first | exact HB.out | apply below_alloc | apply pw_below_drewN | apply below_drew1) | exact HB.out)) hb); clear HO_9; clear HB; have HO_9 := n0_; have HB := n1_; clear n0_ n1_; (try clear hb); (try clear hb2); (try clear hk); (try clear hi)))
                go_ret
                exact ⟨by first | rfl | (simp [errW_none, errW_some] <;> rfl) | (simp [*, errW_none, errW_some] <;> rfl), by repeat (first | (with_reducible first | exact HB.out | apply below_alloc | apply pw_below_drewN | apply below_drew1) | exact HB.out)⟩

/-- THE ONE PURE STATEMENT of wherrylaw03_TreeLeast: yours. -/
def wherrylaw03_TreeLeast.Pure : Prop := ∀ (a0 : Int) (a1 : Int) (a2 : Int) (l3 : List Int), (Lit.int .i64 a0).wf = true → (Lit.int .i64 a1).wf = true → (Lit.int .i64 a2).wf = true → l3.length ≤ maxLen → l3.length * 8 ≤ 140737488351232 → (∀ x ∈ l3, (Lit.int .i64 x).wf = true) → ∃ k, wherrylaw03_TreeLeast.f k a0 a1 a2 l3 = some true
theorem wherrylaw03_TreeLeast.walk (P : wherrylaw03_TreeLeast.Pure) (a0 : Int) (a1 : Int) (a2 : Int) (a3 : Option Addr) (len3 cap3 : Nat) (z3 : List Int) (w : World) (w0 : (Lit.int .i64 a0).wf = true) (w1 : (Lit.int .i64 a1).wf = true) (w2 : (Lit.int .i64 a2).wf = true) (w3 : (a3 = none ∧ len3 = 0 ∧ cap3 = 0 ∧ z3 = []) ∨ ∃ x, a3 = some x ∧ len3 ≤ cap3 ∧ cap3 ≤ maxLen ∧ z3.length = cap3 ∧ (∀ i, i < z3.length → w.cell? (x.add i) = some (.int .i64 (z3.getD i 0))) ∧ ∀ n ∈ z3, (Lit.int .i64 n).wf = true) (y3 : len3 * 8 ≤ 140737488351232) :
    Calls Try.prog 9 #[.int .i64 a0, .int .i64 a1, .int .i64 a2, .slice a3 len3 cap3] w fun e w' => e = .returned (.bool true) ∧ Below w.heap.size w w' := by
  obtain ⟨l3, rfl, hr3, hm3, hw3, hc3⟩ := ReadsInt.ofRowC w3
  obtain ⟨k, h⟩ := P a0 a1 a2 l3 w0 w1 w2 hm3 y3 hw3
  refine (wherrylaw03_TreeLeast.calls k a0 a1 a2 _ _ l3 true w (Kd.C_of_reads (d := (0 : Int)) (h1 := fun _ => rfl) hr3) hc3 h).mono ?_
  rintro e w' ⟨rfl, hd⟩
  exact ⟨rfl, hd⟩

-- PART
end Go.Proofs.Ytaoeghdpmmeaiaa.P
