-- Written by a program of this session out of the translation. Lean checks it.
import Derived.Test.YtagdlmlanjjecaaPx0
import Derived.Test.YtagdlmlanjjecaaPx5
import Derived.Test.YtagdlmlanjjecaaPx6
import Derived.Test.YtagdlmlanjjecaaPx8
import Derived.Test.YtagdlmlanjjecaaPx10
namespace Go.Proofs.Ytagdlmlanjjecaa.P
open Go.RowKit Go.Proofs.YtagdlmlanjjecaaW.PrintWords Go.Proofs.YtagdlmlanjjecaaW.PrintLast Go.Proofs.YtagdlmlanjjecaaW.PrintMore
attribute [local go_sem] max2_int min2_int max_two min_two max_three min_three max_four min_four   -- for this text's walks alone
set_option linter.unusedVariables false
set_option linter.unusedSimpArgs false

-- PART
/-! ### wherrylaw04_wakes: function 25 (by hand) -/
def wherrylaw04_wakes.f : Option Bool := some true
def five : List Int := [97, 97, 97, 97, 97]
def twoT : List S40 := [⟨97, 0, 0⟩, ⟨0, 4, 1⟩]
theorem five_toks : match_Tokens.f five = some (twoT, 0) := by kernel_rfl
theorem five_back : match_Expand.f 20 twoT = some (five, 0) := by kernel_rfl
theorem five_best : match_Best.f five 1 = some (4, 1) := by kernel_rfl
theorem five_same : wherrykeep_Bytes.f 10 five five = some true := by kernel_rfl
theorem two_same : wherrykeep_Toks.f 10 twoT twoT = some true := by kernel_rfl
theorem five_row' {W : World} {g : Nat} {z : Nat × Nat} (hb : W.heap[g]? = some (.cells #[.int .u8 97, .int .u8 97, .int .u8 97, .int .u8 97, .int .u8 97] 5 z)) : Kd.C (Kd.int .u8) W (some ⟨g, 0, none⟩) five.length five := by
  refine ⟨rfl, by decide, fun _ => ⟨_, rfl, fun j p hp => ⟨[.int .u8 p], rfl, rfl, fun i u hu => ?_⟩⟩⟩
  have hi : i = 0 := by
    rcases i with _ | i
    · rfl
    · simp at hu
  subst hi
  obtain rfl : Value.int .u8 p = u := by simpa using hu
  match j, hp with
  | 0, hp => obtain rfl : (97 : Int) = p := by simpa [five] using hp
             change W.cell? ⟨g, 0, none⟩ = _
             simp only [World.cell?, hb]; rfl
  | 1, hp => obtain rfl : (97 : Int) = p := by simpa [five] using hp
             change W.cell? ⟨g, 1, none⟩ = _
             simp only [World.cell?, hb]; rfl
  | 2, hp => obtain rfl : (97 : Int) = p := by simpa [five] using hp
             change W.cell? ⟨g, 2, none⟩ = _
             simp only [World.cell?, hb]; rfl
  | 3, hp => obtain rfl : (97 : Int) = p := by simpa [five] using hp
             change W.cell? ⟨g, 3, none⟩ = _
             simp only [World.cell?, hb]; rfl
  | 4, hp => obtain rfl : (97 : Int) = p := by simpa [five] using hp
             change W.cell? ⟨g, 4, none⟩ = _
             simp only [World.cell?, hb]; rfl
  | j + 5, hp => simp [five] at hp
theorem five_row (w : World) (z : Nat × Nat) : Kd.C (Kd.int .u8) (w.alloc (.cells #[.int .u8 97, .int .u8 97, .int .u8 97, .int .u8 97, .int .u8 97] 5 z)) (some ⟨w.heap.size, 0, none⟩) five.length five := five_row' (blk_new w _)
theorem two_row' {W : World} {g : Nat} {z : Nat × Nat} (hb : W.heap[g]? = some (.cells #[.int .u8 97, .int .i64 0, .int .i64 0, .int .u8 0, .int .i64 4, .int .i64 1] 40 z)) : Kd.C k40 W (some ⟨g, 0, none⟩) twoT.length twoT := by
  refine ⟨rfl, by decide, fun _ => ⟨_, rfl, fun j p hp => ?_⟩⟩
  match j, hp with
  | 0, hp =>
    obtain rfl : (⟨97, 0, 0⟩ : S40) = p := by simpa [twoT] using hp
    refine ⟨[.int .u8 97, .int .i64 0, .int .i64 0], rfl, k40.K_of_M (k40_mkM W 0 (fun _ => True) ⟨97, 0, 0⟩), fun i u hu => ?_⟩
    match i, hu with
    | 0, hu => change W.cell? ⟨g, 0, none⟩ = _; simp only [World.cell?, hb]; exact hu
    | 1, hu => change W.cell? ⟨g, 1, none⟩ = _; simp only [World.cell?, hb]; exact hu
    | 2, hu => change W.cell? ⟨g, 2, none⟩ = _; simp only [World.cell?, hb]; exact hu
    | i + 3, hu => simp at hu
  | 1, hp =>
    obtain rfl : (⟨0, 4, 1⟩ : S40) = p := by simpa [twoT] using hp
    refine ⟨[.int .u8 0, .int .i64 4, .int .i64 1], rfl, k40.K_of_M (k40_mkM W 0 (fun _ => True) ⟨0, 4, 1⟩), fun i u hu => ?_⟩
    match i, hu with
    | 0, hu => change W.cell? ⟨g, 3, none⟩ = _; simp only [World.cell?, hb]; exact hu
    | 1, hu => change W.cell? ⟨g, 4, none⟩ = _; simp only [World.cell?, hb]; exact hu
    | 2, hu => change W.cell? ⟨g, 5, none⟩ = _; simp only [World.cell?, hb]; exact hu
    | i + 3, hu => simp at hu
  | j + 2, hp => simp [twoT] at hp
set_option maxHeartbeats 8000000 in
set_option maxRecDepth 100000 in
theorem wherrylaw04_wakes.calls  (r : Bool) (w : World) (h : wherrylaw04_wakes.f  = some r) :
    Calls Try.prog 25 #[] w fun e w' => e = .returned (.bool r) ∧ Below w.heap.size w w' := by
  have hu40 := Try.underlying40
  unfold wherrylaw04_wakes.f at h
  obtain rfl := Option.some.inj h
  clear h
  have HF1 := Aside0.mk five_toks
  have HF2 := Aside0.mk five_back
  have HF3 := Aside0.mk five_best
  have hcv := fun (w : World) (C : Array Value) (n c : Nat) => @Lib.run_convert_bytes_const Try.prog w 22 5 C n c Try.underlying22 Try.underlying5
  go_enter Try.func25, Try.ntmps25
  go_wp2_with fail
  refine (match_Tokens.calls _ _ five twoT 0 _ (five_row _ _) (by decide) HF1.out).mono ?_
  rintro e1 w1 ⟨v1, rfl, ho1, hb1⟩
  go_wp2_with fail
  obtain ⟨A1, c1, rfl⟩ := Kd.R_slice ho1
  have HB1 := Aside0.mk (below_step (below_alloc (Below.refl w.heap.size w) _) hb1)
  have HC1 := Aside0.mk (Kd.R_reads' ho1).2.2
  have HL1 := Aside0.mk (Kd.R_reads' ho1).2.1
  clear ho1 hb1
  refine (match_Expand.calls 20 _ _ twoT five 0 _ HC1.out HL1.out HF2.out).mono ?_
  rintro e2 w2 ⟨v2, rfl, ho2, hb2⟩
  obtain ⟨A2, c2, rfl⟩ := Kd.R_slice ho2
  have HB2 := Aside0.mk (below_step HB1.out hb2)
  have HC2 := Aside0.mk (Kd.R_reads' ho2).2.2
  have HL2 := Aside0.mk (Kd.R_reads' ho2).2.1
  have HC1' := Aside0.mk (Kd.C_below HC1.out hb2)
  clear ho2 hb2 HB1 HC1
  go_wp2_with fail
  refine (match_Best.calls _ _ five 1 4 1 _ (five_row _ _) (by decide) HF3.out).mono ?_
  rintro e3 w3 ⟨rfl, hb3⟩
  have HB3 := Aside0.mk (below_step (below_alloc HB2.out _) hb3)
  have HC1 := Aside0.mk (Kd.C_below (Kd.C_alloc HC1'.out _) hb3)
  have HC2' := Aside0.mk (Kd.C_below (Kd.C_alloc HC2.out _) hb3)
  clear hb3 HB2 HC2 HC1'
  go_wp2_with fail
  refine (wherrykeep_Toks.calls 10 _ _ twoT _ _ twoT true _ (Kd.C_alloc HC1.out _) HL1.out (two_row' (blk_new w3 _)) (show twoT.length ≤ 2 by decide) two_same).mono ?_
  rintro e4 w4 ⟨rfl, hd4⟩
  have hb4 := Aside0.mk (show Below w.heap.size w w4 from by obtain ⟨m, rfl⟩ := hd4; exact pw_below_drewN (below_alloc HB3.out _) _)
  have hc4 := Aside0.mk (show Kd.C (Kd.int .u8) w4 A2 five.length five from by obtain ⟨m, rfl⟩ := hd4; exact Kd.C_drewN (Kd.C_alloc HC2'.out _) _)
  clear hd4
  go_wp2_with fail
  refine (wherrykeep_Bytes.calls 10 _ _ five _ _ five true _ (Kd.C_alloc hc4.out _) HL2.out (five_row _ _) (show five.length ≤ 5 by decide) five_same).mono ?_
  rintro e5 w5 ⟨rfl, m5, rfl⟩
  go_wp2_with fail
  go_ret
  exact ⟨rfl, pw_below_drewN (below_alloc hb4.out _) _⟩

-- PART
end Go.Proofs.Ytagdlmlanjjecaa.P
