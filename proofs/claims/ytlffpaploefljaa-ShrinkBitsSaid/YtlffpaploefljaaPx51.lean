-- Written by a program of this session out of the translation. Lean checks it.
import Derived.Test.YtlffpaploefljaaPx0
import Derived.Test.YtlffpaploefljaaPx45
import Derived.Test.YtlffpaploefljaaPx1
import Derived.Test.YtlffpaploefljaaPx10
namespace Go.Proofs.Ytlffpaploefljaa.P
open Go.RowKit Go.Proofs.YtlffpaploefljaaW.PrintWords Go.Proofs.YtlffpaploefljaaW.PrintLast Go.Proofs.YtlffpaploefljaaW.PrintMore
attribute [local go_sem] max2_int min2_int max_two min_two max_three min_three max_four min_four   -- for this text's walks alone
set_option linter.unusedVariables false
set_option linter.unusedSimpArgs false

/-! ### wherrykeep_Ints: function 20 -/
def wherrykeep_Ints.l0 : Nat → List Int → List Int → Int → Option (Bool)
  | 0, _, _, _ => none
  | k + 1, x0, x1, x5 => if x5 < (x0.length : Int) then (if 0 ≤ x5 then (if x5 < (x1.length : Int) then (if (rd x0 x5) = (rd x1 x5) then (wherrykeep_Ints.l0 k x0 x1 (wrap64 (x5 + 1))) else (some false)) else (none)) else (none)) else (some true)
def wherrykeep_Ints.f (k : Nat) (l0 : List Int) (l1 : List Int) : Option (Bool) := if (l0.length : Int) = (l1.length : Int) then (wherrykeep_Ints.l0 k l0 l1 0) else (some false)
set_option maxHeartbeats 8000000 in
set_option maxRecDepth 100000 in
theorem wherrykeep_Ints.calls (k : Nat) (A0 : Option Addr) (c0 : Nat) (l0 : List Int) (A1 : Option Addr) (c1 : Nat) (l1 : List Int) (r : Bool) (w : World) (hr0 : Kd.C (Kd.int .i64) w A0 l0.length l0) (hc0 : l0.length ≤ c0) (hr1 : Kd.C (Kd.int .i64) w A1 l1.length l1) (hc1 : l1.length ≤ c1) (h : wherrykeep_Ints.f k l0 l1 = some r) :
    Calls Try.prog 20 #[.slice A0 l0.length c0, .slice A1 l1.length c1] w fun e w' => e = .returned (.bool r) ∧ Drawn0 w w' := by
  have HR0 := Aside0.mk hr0
  have HC0 := Aside0.mk hc0
  clear hr0 hc0
  have HR1 := Aside0.mk hr1
  have HC1 := Aside0.mk hc1
  clear hr1 hc1
  have H : (if (l0.length : Int) = (l1.length : Int) then (wherrykeep_Ints.l0 k l0 l1 0) else (some false)) = some r := h
  clear h
  by_cases c3 : (l0.length : Int) = (l1.length : Int)
  · rw [if_pos c3] at H
    have c3b0 : ((l0.length : Int) == (l1.length : Int)) = true := beq_iff_eq.mpr c3
    have c3b1 : ((l0.length : Int) != (l1.length : Int)) = false := bne_eq_false_iff_eq.mpr c3
    have c3b2 : (l0.length == l1.length) = true := by first | simpa using c3 | (simp at c3 ⊢; omega)
    clear c3
    have H' := Aside0.mk H
    clear H
    go_enter Try.func20, Try.ntmps20
    go_wp2
    repeat (go_quiet (fail); try go_wp2)
    go_loopg [5] k (fun kq v5 w' => ∃ (x5_1 : Int), v5 = .int .i64 x5_1 ∧ Aside0 (wherrykeep_Ints.l0 kq l0 l1 x5_1 = some r) ∧ Aside0 (kq ≤ k) ∧ Drawn0 w w')
    case atStart => exact ⟨(0), (by first | rfl | (simp; done) | (simp [*]; done)), H', ⟨Nat.le_refl _⟩, by repeat (first | exact Drawn0.refl _ | apply Drawn0.step)⟩
    case round =>
      clear H'
      try clear c1
      try clear c2
      try clear p2
      try clear c3
      try clear c3b0
      try clear c3b1
      try clear c3b2
      obtain ⟨x5_1, rfl, HA, HK1, ⟨m1, rfl⟩⟩ := hrel
      cases gk with
      | zero => exact absurd HA.out (by simp [wherrykeep_Ints.l0])
      | succ k1 =>
        have H := HA.out
        clear HA
        simp only [wherrykeep_Ints.l0] at H
        by_cases c4 : x5_1 < (l0.length : Int)
        · rw [if_pos c4] at H
          have c4b0 : decide (x5_1 < (l0.length : Int)) = true := decide_eq_true c4
          clear c4
          by_cases c5 : 0 ≤ x5_1
          · rw [if_pos c5] at H
            have c5b0 : decide (0 ≤ x5_1) = true := decide_eq_true c5
            clear c5
            by_cases c6 : x5_1 < (l1.length : Int)
            · rw [if_pos c6] at H
              have c6b0 : decide (x5_1 < (l1.length : Int)) = true := decide_eq_true c6
              clear c6
              by_cases c7 : (rd l0 x5_1) = (rd l1 x5_1)
              · rw [if_pos c7] at H
                have c7b0 : ((rd l0 x5_1) == (rd l1 x5_1)) = true := beq_iff_eq.mpr c7
                have c7b1 : ((rd l0 x5_1) != (rd l1 x5_1)) = false := bne_eq_false_iff_eq.mpr c7
                clear c7
                have H' := Aside0.mk H
                clear H
                have p214 : 0 ≤ (x5_1 : Int) := of_decide_eq_true (by first | (with_reducible assumption) | assumption)
                have q214 : x5_1 < (l0.length : Int) := of_decide_eq_true (by first | (with_reducible assumption) | assumption)
                obtain ⟨ad214, e214, hx214_0⟩ := Kd.at_int HR0.out x5_1 p214 q214
                cases e214
                replace p214 := eq_true p214
                replace q214 := eq_true q214
                have p215 : 0 ≤ (x5_1 : Int) := of_decide_eq_true (by first | (with_reducible assumption) | assumption)
                have q215 : x5_1 < (l1.length : Int) := of_decide_eq_true (by first | (with_reducible assumption) | assumption)
                obtain ⟨ad215, e215, hx215_0⟩ := Kd.at_int HR1.out x5_1 p215 q215
                cases e215
                replace p215 := eq_true p215
                replace q215 := eq_true q215
                go_wp2
                repeat (go_quiet (fail); try go_wp2)
                go_roundg k1
                case measure => have := HK1.out; omega
                case rel => exact ⟨(wrap64 (x5_1 + 1)), (by first | rfl | (simp; done) | (simp [*]; done)), H', ⟨by have := HK1.out; omega⟩, by repeat (first | exact Drawn0.refl _ | apply Drawn0.step)⟩
              · rw [if_neg c7] at H
                have c7b0 : ((rd l0 x5_1) == (rd l1 x5_1)) = false := beq_eq_false_iff_ne.mpr c7
                have c7b1 : ((rd l0 x5_1) != (rd l1 x5_1)) = true := bne_iff_ne.mpr c7
                obtain rfl := Option.some.inj H
                have p214 : 0 ≤ (x5_1 : Int) := of_decide_eq_true (by first | (with_reducible assumption) | assumption)
                have q214 : x5_1 < (l0.length : Int) := of_decide_eq_true (by first | (with_reducible assumption) | assumption)
                obtain ⟨ad214, e214, hx214_0⟩ := Kd.at_int HR0.out x5_1 p214 q214
                cases e214
                replace p214 := eq_true p214
                replace q214 := eq_true q214
                have p215 : 0 ≤ (x5_1 : Int) := of_decide_eq_true (by first | (with_reducible assumption) | assumption)
                have q215 : x5_1 < (l1.length : Int) := of_decide_eq_true (by first | (with_reducible assumption) | assumption)
                obtain ⟨ad215, e215, hx215_0⟩ := Kd.at_int HR1.out x5_1 p215 q215
                cases e215
                replace p215 := eq_true p215
                replace q215 := eq_true q215
                go_wp2
                repeat (go_quiet (fail); try go_wp2)
                go_ret
                exact ⟨by first | rfl | (simp; done) | (simp [*]; done), by repeat (first | exact Drawn0.refl _ | apply Drawn0.step)⟩
            · rw [if_neg c6] at H
              exact absurd H (by simp)
          · rw [if_neg c5] at H
            exact absurd H (by simp)
        · rw [if_neg c4] at H
          have c4b0 : decide (x5_1 < (l0.length : Int)) = false := decide_eq_false c4
          clear c4
          obtain rfl := Option.some.inj H
          go_wp2
          repeat (go_quiet (fail); try go_wp2)
          go_ret
          exact ⟨by first | rfl | (simp; done) | (simp [*]; done), by repeat (first | exact Drawn0.refl _ | apply Drawn0.step)⟩
  · rw [if_neg c3] at H
    have c3b0 : ((l0.length : Int) == (l1.length : Int)) = false := beq_eq_false_iff_ne.mpr c3
    have c3b1 : ((l0.length : Int) != (l1.length : Int)) = true := bne_iff_ne.mpr c3
    have c3b2 : (l0.length == l1.length) = false := by first | simpa using c3 | (simp at c3 ⊢; omega)
    obtain rfl := Option.some.inj H
    go_enter Try.func20, Try.ntmps20
    go_wp2
    repeat (go_quiet (fail); try go_wp2)
    go_ret
    exact ⟨by first | rfl | (simp; done) | (simp [*]; done), by repeat (first | exact Drawn0.refl _ | apply Drawn0.step)⟩

end Go.Proofs.Ytlffpaploefljaa.P
namespace Go.Proofs.Ytlffpaploefljaa.P
open Go.RowKit Go.Proofs.YtlffpaploefljaaW.PrintWords Go.Proofs.YtlffpaploefljaaW.PrintLast Go.Proofs.YtlffpaploefljaaW.PrintMore
attribute [local go_sem] max2_int min2_int max_two min_two max_three min_three max_four min_four   -- for this text's walks alone
set_option linter.unusedVariables false
set_option linter.unusedSimpArgs false

-- PART
/-! ### wherrylaw06_wakes: function 14 (by hand) -/
def wherrylaw06_wakes.f : Option Bool := some true
theorem litk_row (K : IntKind) (xs : List Int) {W : World} {g : Nat} {ty : TypeId} {z : Nat × Nat} {cs : Array Value} (hb : W.heap[g]? = some (.cells cs ty z)) (hc : cs = (xs.map (fun x => Value.int K x)).toArray) (hm : xs.length ≤ 1000) : Kd.C (Kd.int K) W (some ⟨g, 0, none⟩) xs.length xs := by
  refine ⟨rfl, by have : maxLen = maxLen := rfl; exact Nat.le_trans hm (by decide), fun _ => ⟨_, rfl, fun j p hp => ⟨[.int K p], rfl, rfl, fun i u hu => ?_⟩⟩⟩
  have hi : i = 0 := by
    rcases i with _ | i
    · rfl
    · simp at hu
  subst hi
  obtain rfl : Value.int K p = u := by simpa using hu
  have e : ((⟨g, 0, none⟩ : Addr).add (j * (Kd.int K).sz + 0)) = ⟨g, j, none⟩ := by
    simp [Addr.add, Kd.int, Kd.scalar]; omega
  show W.cell? ((⟨g, 0, none⟩ : Addr).add (j * (Kd.int K).sz + 0)) = _
  rw [e]
  simp only [World.cell?, hb]
  subst hc
  simp [hp]
theorem wk_shrink : shrink_Shrink.f [] = some ([3, 0], 0) := by decide +kernel
theorem wk_stored : shrink_Stored.f [7] = some ([1, 1, 0, 254, 255, 7], 0) := by decide +kernel
theorem wk_row : shrink_Row.f 40 [0, 0, 0, 4] = some ([17, 4], [0, 0], 0) := by decide +kernel
theorem wk_b1 : wherrykeep_Bytes.f 10 [3, 0] [3, 0] = some true := by decide +kernel
theorem wk_b2 : wherrykeep_Bytes.f 10 [1, 1, 0, 254, 255, 7] [1, 1, 0, 254, 255, 7] = some true := by decide +kernel
theorem wk_i1 : wherrykeep_Ints.f 10 [17, 4] [17, 4] = some true := by decide +kernel
theorem wk_i2 : wherrykeep_Ints.f 10 [0, 0] [0, 0] = some true := by decide +kernel
set_option maxHeartbeats 4000000 in
set_option maxRecDepth 100000 in
theorem wherrylaw06_wakes.calls  (r : Bool) (w : World) (h : wherrylaw06_wakes.f  = some r) :
    Calls Try.prog 14 #[] w fun e w' => e = .returned (.bool r) ∧ Below w.heap.size w w' := by
  unfold wherrylaw06_wakes.f at h
  injection h with h
  subst h
  go_enter Try.func14, Try.ntmps14
  go_wp2_with fail
  refine (shrink_Shrink.calls none 0 [] [3, 0] 0 w (Kd.C_nil _ _) (Nat.le_refl _) wk_shrink).mono ?_
  rintro e w1 ⟨v1, rfl, ho1, hb1⟩
  obtain ⟨A1, c1, e1⟩ := Kd.R_slice ho1
  subst e1
  have HO1 := Aside0.mk ho1
  have HB1 := Aside0.mk hb1
  clear ho1 hb1
  go_wp2_with fail
  have hal1 : Below w1.heap.size w1 (w1.alloc (.cells #[.int .u8 7] 5)) := (Below.refl _ _).alloc (Nat.le_refl _) _
  refine (shrink_Stored.calls (some ⟨w1.heap.size, 0, none⟩) 1 [7] [1, 1, 0, 254, 255, 7] 0 (w1.alloc (.cells #[.int .u8 7] 5)) (litk_row .u8 [7] (blk_new w1 _) rfl (by decide)) (Nat.le_refl _) wk_stored).mono ?_
  rintro e w2 ⟨v2, rfl, ho2, hb2⟩
  obtain ⟨A2, c2, e2⟩ := Kd.R_slice ho2
  subst e2
  have hb12 : Below w1.heap.size w1 w2 := below_then hal1 hal1.size hb2
  have HO1b := Aside0.mk (Kd.R_below HO1.out hb12)
  have HO2 := Aside0.mk ho2
  have HB2 := Aside0.mk (below_then HB1.out HB1.out.size hb12)
  clear ho2 hb2 hb12 hal1 HO1 HB1
  go_wp2_with fail
  have hal3 : Below w2.heap.size w2 (w2.alloc (.cells #[.int .i64 0, .int .i64 0, .int .i64 0, .int .i64 4] 3)) := (Below.refl _ _).alloc (Nat.le_refl _) _
  refine (shrink_Row.calls 40 (some ⟨w2.heap.size, 0, none⟩) 4 [0, 0, 0, 4] [17, 4] [0, 0] 0 (w2.alloc (.cells #[.int .i64 0, .int .i64 0, .int .i64 0, .int .i64 4] 3)) (litk_row .i64 [0, 0, 0, 4] (blk_new w2 _) rfl (by decide)) (Nat.le_refl _) wk_row).mono ?_
  rintro e w3 ⟨v3, v4, rfl, ho3, ho4, hb3⟩
  obtain ⟨A3, c3, e3⟩ := Kd.R_slice ho3
  subst e3
  obtain ⟨A4, c4, e4⟩ := Kd.R_slice ho4
  subst e4
  have hb23 : Below w2.heap.size w2 w3 := below_then hal3 hal3.size hb3
  have HB3 := Aside0.mk (below_then HB2.out HB2.out.size hb23)
  have R1 := Aside0.mk (fun W (h : Below w3.heap.size w3 W) => Kd.R_reads' (Kd.R_below (Kd.R_below HO1b.out hb23) h))
  have R2 := Aside0.mk (fun W (h : Below w3.heap.size w3 W) => Kd.R_reads' (Kd.R_below (Kd.R_below HO2.out hb23) h))
  have R3 := Aside0.mk (fun W (h : Below w3.heap.size w3 W) => Kd.R_reads' (Kd.R_below ho3 h))
  have R4 := Aside0.mk (fun W (h : Below w3.heap.size w3 W) => Kd.R_reads' (Kd.R_below ho4 h))
  clear ho3 ho4 hb3 hb23 hal3 HO1b HO2 HB2
  go_wp2_with fail
  have h4 : Below w3.heap.size w3 (w3.alloc (.cells #[.int .u8 3, .int .u8 0] 5)) := (Below.refl _ _).alloc (Nat.le_refl _) _
  refine (wherrykeep_Bytes.calls 10 A1 c1 [3, 0] (some ⟨w3.heap.size, 0, none⟩) 2 [3, 0] true (w3.alloc (.cells #[.int .u8 3, .int .u8 0] 5)) (R1.out _ h4).2.2 (R1.out _ h4).2.1 (litk_row .u8 [3, 0] (blk_new w3 _) rfl (by decide)) (Nat.le_refl _) wk_b1).mono ?_
  rintro e w4 ⟨rfl, hd4⟩
  have H4 := Aside0.mk (below_then h4 h4.size hd4.below)
  clear h4 hd4
  go_wp2_with fail
  have h5 : Below w3.heap.size w3 (w4.alloc (.cells #[.int .u8 1, .int .u8 1, .int .u8 0, .int .u8 254, .int .u8 255, .int .u8 7] 5)) := H4.out.alloc H4.out.size _
  refine (wherrykeep_Bytes.calls 10 A2 c2 [1, 1, 0, 254, 255, 7] (some ⟨w4.heap.size, 0, none⟩) 6 [1, 1, 0, 254, 255, 7] true (w4.alloc (.cells #[.int .u8 1, .int .u8 1, .int .u8 0, .int .u8 254, .int .u8 255, .int .u8 7] 5)) (R2.out _ h5).2.2 (R2.out _ h5).2.1 (litk_row .u8 [1, 1, 0, 254, 255, 7] (blk_new w4 _) rfl (by decide)) (Nat.le_refl _) wk_b2).mono ?_
  rintro e w5 ⟨rfl, hd5⟩
  have H5 := Aside0.mk (below_then h5 h5.size hd5.below)
  clear h5 hd5 H4
  go_wp2_with fail
  have h6 : Below w3.heap.size w3 (w5.alloc (.cells #[.int .i64 17, .int .i64 4] 3)) := H5.out.alloc H5.out.size _
  refine (wherrykeep_Ints.calls 10 A3 c3 [17, 4] (some ⟨w5.heap.size, 0, none⟩) 2 [17, 4] true (w5.alloc (.cells #[.int .i64 17, .int .i64 4] 3)) (R3.out _ h6).2.2 (R3.out _ h6).2.1 (litk_row .i64 [17, 4] (blk_new w5 _) rfl (by decide)) (Nat.le_refl _) wk_i1).mono ?_
  rintro e w6 ⟨rfl, hd6⟩
  have H6 := Aside0.mk (below_then h6 h6.size hd6.below)
  clear h6 hd6 H5
  go_wp2_with fail
  have h7 : Below w3.heap.size w3 (w6.alloc (.cells #[.int .i64 0, .int .i64 0] 3)) := H6.out.alloc H6.out.size _
  refine (wherrykeep_Ints.calls 10 A4 c4 [0, 0] (some ⟨w6.heap.size, 0, none⟩) 2 [0, 0] true (w6.alloc (.cells #[.int .i64 0, .int .i64 0] 3)) (R4.out _ h7).2.2 (R4.out _ h7).2.1 (litk_row .i64 [0, 0] (blk_new w6 _) rfl (by decide)) (Nat.le_refl _) wk_i2).mono ?_
  rintro e w7 ⟨rfl, hd7⟩
  have H7 := Aside0.mk (below_then h7 h7.size hd7.below)
  clear h7 hd7 H6
  go_wp2_with fail
  go_ret
  exact ⟨rfl, below_then HB3.out HB3.out.size H7.out⟩

-- PART
end Go.Proofs.Ytlffpaploefljaa.P
namespace Go.Proofs.Ytlffpaploefljaa.P
open Go.RowKit Go.Proofs.YtlffpaploefljaaW.PrintWords Go.Proofs.YtlffpaploefljaaW.PrintLast Go.Proofs.YtlffpaploefljaaW.PrintMore
attribute [local go_sem] max2_int min2_int max_two min_two max_three min_three max_four min_four   -- for this text's walks alone
set_option linter.unusedVariables false
set_option linter.unusedSimpArgs false

-- PART
/-! ### shrink_Fixed: function 23 (by hand) -/
def shrink_Fixed.f (l0 : List Int) : Option (List Int × Int) := (match_Tokens.f l0).bind fun t => if t.2 = 0 then (if t.1.length ≤ 1000000 then (knownS t.1).bind fun s => some (s.1, 0) else none) else some ([], t.2)
set_option maxHeartbeats 4000000 in
set_option maxRecDepth 100000 in
theorem shrink_Fixed.calls (A0 : Option Addr) (c0 : Nat) (l0 : List Int) (r1 : List Int) (r2 : Int) (w : World) (hr0 : Kd.C (Kd.int .u8) w A0 l0.length l0) (hc0 : l0.length ≤ c0) (h : shrink_Fixed.f l0 = some (r1, r2)) :
    Calls Try.prog 23 #[.slice A0 l0.length c0] w fun e w' => ∃ v0_ : Value, e = .returned (.tuple #[v0_, .int .i64 r2]) ∧ Kd.R (Kd.int .u8) 5 w' w.heap.size (fun _ => True) v0_ r1 ∧ Below w.heap.size w w' := by
  unfold shrink_Fixed.f at h
  obtain ⟨⟨t, e0⟩, h1, h⟩ := Option.bind_eq_some_iff.1 h
  simp only at h
  have H1 := Aside0.mk h1
  have H := Aside0.mk h
  have HR := Aside0.mk hr0
  clear h1 h hr0
  go_enter Try.func23, Try.ntmps23
  go_wp2_with fail
  refine (match_Tokens.calls A0 c0 l0 t e0 w HR.out hc0 H1.out).mono ?_
  rintro e w1 ⟨v1, rfl, ho, hb⟩
  obtain ⟨A1, c1, e1⟩ := Kd.R_slice ho
  subst e1
  obtain ⟨r1, _, hc1⟩ := readsT_own ho
  have HR1 := Aside0.mk r1
  have HB1 := Aside0.mk hb
  have h := H.out
  clear ho r1 hb H
  by_cases h0 : e0 = 0
  rotate_left
  · have d0 : (e0 != 0) = true := bne_iff_ne.2 h0
    rw [if_neg h0] at h
    injection h with h
    injection h with h1 h2
    subst h1 h2
    go_wp2_with fail
    go_ret2
    exact ⟨_, rfl, Kd.R_nil _ _ _ _ _, HB1.out⟩
  have d0 : (e0 != 0) = false := by rw [h0]; rfl
  rw [if_pos h0] at h
  split at h
  rotate_left
  · cases h
  rename_i hl
  obtain ⟨s, hs, h⟩ := Option.bind_eq_some_iff.1 h
  injection h with h
  injection h with h1 h2
  subst h1 h2
  have HS := Aside0.mk hs
  clear hs
  go_wp2_with fail
  refine (shr_known A1 c1 t s w1 HR1.out hc1 hl HS.out).mono ?_
  rintro e w2 ⟨g, rfl, hP, hB⟩
  obtain ⟨v, hg, hge, ho⟩ := hP
  have hcz : w2.cell? ⟨g, 0, none⟩ = some v := (blk_cell hg 0).trans rfl
  have HO := Aside0.mk (Kd.R_lower ho HB1.out.size)
  have HB := Aside0.mk (below_then HB1.out HB1.out.size hB)
  clear ho hB hg
  go_wp2_with fail
  go_ret2
  exact ⟨v, rfl, HO.out, HB.out⟩

-- PART
end Go.Proofs.Ytlffpaploefljaa.P
