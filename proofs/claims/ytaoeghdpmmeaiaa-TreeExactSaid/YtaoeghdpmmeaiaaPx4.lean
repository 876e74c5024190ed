-- Written by a program of this session out of the translation. Lean checks it.
import Derived.Test.YtaoeghdpmmeaiaaPx0
import Derived.Test.YtaoeghdpmmeaiaaPx1
import Derived.Test.YtaoeghdpmmeaiaaPx3
namespace Go.Proofs.Ytaoeghdpmmeaiaa.P
open Go.RowKit Go.Proofs.YtaoeghdpmmeaiaaW.PrintWords Go.Proofs.YtaoeghdpmmeaiaaW.PrintLast Go.Proofs.YtaoeghdpmmeaiaaW.PrintMore
attribute [local go_sem] max2_int min2_int max_two min_two max_three min_three max_four min_four   -- for this text's walks alone
set_option linter.unusedVariables false
set_option linter.unusedSimpArgs false

-- PART
/-! ### tree_Cost: function 14 (by hand) -/
/-- May weights be such? How many are above 0? -/
def weighs (w : List Int) : Bool := decide (w.length ≤ 300) && w.all (fun x => decide (0 ≤ x) && decide (x ≤ 1048576))
def pos (w : List Int) : Nat := (w.filter (fun x => decide (0 < x))).length
theorem weighs_iff (w : List Int) : weighs w = true ↔ w.length ≤ 300 ∧ ∀ x ∈ w, 0 ≤ x ∧ x ≤ 1048576 := by
  unfold weighs
  simp [List.all_eq_true]
theorem pos_le (w : List Int) : pos w ≤ w.length := List.length_filter_le _ _
theorem above_loop (l : List Int) (hl : l.length ≤ 300) : ∀ (d i k : Nat), i + d = l.length → 2 * d < k → tree_above.l0 k (pos (l.take i) : Int) l (l.length : Int) (i : Int) = some (if (l.drop i).all (fun x => decide (0 ≤ x) && decide (x ≤ 1048576)) then ((pos l : Int), true) else (0, false)) := by
  intro d
  induction d with
  | zero =>
    intro i k hi hk
    obtain ⟨k, rfl⟩ : ∃ m, k = m + 1 := ⟨k - 1, by omega⟩
    simp only [tree_above.l0]
    rw [if_neg (by omega), List.drop_of_length_le (by omega), List.take_of_length_le (by omega)]
    rfl
  | succ d ih =>
    intro i k hi hk
    obtain ⟨k, rfl⟩ : ∃ m, k = m + 2 := ⟨k - 2, by omega⟩
    have hlt : i < l.length := by omega
    have hp : pos (l.take i) ≤ 300 := Nat.le_trans (pos_le _) (by rw [List.length_take]; omega)
    have hstep : pos (l.take (i + 1)) = pos (l.take i) + if 0 < l[i] then 1 else 0 := by
      unfold pos
      rw [List.take_succ_eq_append_getElem hlt, List.filter_append, List.length_append]
      by_cases h : 0 < l[i] <;> simp [List.filter_cons, h]
    have e : rd l (i : Int) = l[i] := by unfold rd; rw [Int.toNat_natCast, List.getD_eq_getElem?_getD, List.getElem?_eq_getElem hlt]; rfl
    simp only [tree_above.l0]
    rw [if_pos (by omega), if_pos (by omega), if_pos (by omega), e, List.drop_eq_getElem_cons hlt, List.all_cons]
    by_cases h0 : l[i] < 0
    · rw [if_pos h0, decide_eq_false (by omega)]
      simp only [tree_above.j1]
      rw [if_pos trivial]
      rfl
    · rw [if_neg h0]
      by_cases h1 : l[i] > 1048576
      · rw [decide_eq_true h1, decide_eq_true (by omega), decide_eq_false (by omega)]
        simp only [tree_above.j1]
        rw [if_pos trivial]
        rfl
      · rw [decide_eq_false h1, decide_eq_true (by omega), decide_eq_true (by omega), Bool.and_true, Bool.true_and]
        simp only [tree_above.j1]
        rw [if_neg (by decide), show wrap64 ((i : Int) + 1) = ((i + 1 : Nat) : Int) from by unfold wrap64; omega, show wrap64 ((pos (l.take i) : Int) + 1) = ((pos (l.take i) + 1 : Nat) : Int) from by unfold wrap64; omega]
        have := ih (i + 1) k (by omega) (by omega)
        rw [hstep] at this
        by_cases h2 : l[i] > 0
        · rw [if_pos h2]
          rw [if_pos (by omega)] at this
          exact this
        · rw [if_neg h2]
          rw [if_neg (by omega)] at this
          exact this
theorem above_is (l : List Int) : tree_above.f 700 l = some (if weighs l then ((pos l : Int), true) else (0, false)) := by
  unfold tree_above.f weighs
  by_cases h : l.length ≤ 300
  · rw [if_neg (by omega), decide_eq_true h]
    have := above_loop l h l.length 0 700 (by omega) (by omega)
    rw [show ((pos (l.take 0) : Nat) : Int) = 0 from rfl, List.drop_zero] at this
    exact this
  · rw [if_pos (by omega), decide_eq_false h]; rfl
/-- What lengths cost. -/
def costOf : List Int → List Int → Int
  | x :: xs, y :: ys => x * y + costOf xs ys
  | _, _ => 0
def tree_Cost.f (l0 l1 : List Int) : Option (Int × Int) := some (if l0.length ≠ l1.length then (0, 2) else if weighs l0 = true ∧ l1.any badLen = false then (costOf l0 l1, 0) else (0, 1))
theorem costOf_snoc (x y : Int) : ∀ (a b : List Int), a.length = b.length → costOf (a ++ [x]) (b ++ [y]) = costOf a b + x * y
  | [], [], _ => by simp [costOf]
  | _ :: as_, _ :: bs_, h => by
    simp only [List.cons_append, costOf]
    rw [costOf_snoc x y as_ bs_ (by simpa using h)]
    omega
theorem costOf_le : ∀ (a b : List Int), (∀ x ∈ a, 0 ≤ x ∧ x ≤ 1048576) → (∀ x ∈ b, 0 ≤ x ∧ x ≤ 15) → 0 ≤ costOf a b ∧ costOf a b ≤ a.length * 15728640
  | [], _, _, _ => by simp [costOf]
  | _ :: _, [], _, _ => by simp [costOf]; omega
  | a :: as_, b :: bs_, h1, h2 => by
    obtain ⟨i1, i2⟩ := costOf_le as_ bs_ (fun x hx => h1 x (List.mem_cons_of_mem _ hx)) (fun x hx => h2 x (List.mem_cons_of_mem _ hx))
    have ha := h1 a List.mem_cons_self
    have hb := h2 b List.mem_cons_self
    have hm : 0 ≤ a * b := Int.mul_nonneg ha.1 hb.1
    have hm2 : a * b ≤ 1048576 * 15 := Int.mul_le_mul ha.2 hb.2 hb.1 (by omega)
    simp only [costOf, List.length_cons]
    omega
set_option maxHeartbeats 8000000 in
set_option maxRecDepth 100000 in
theorem cost_pred (x : Int) (w : World) : Calls Try.prog 27 #[.int .i64 x] w fun e w' => e = .returned (.bool (badLen x)) ∧ Drawn0 w w' := by
  unfold badLen
  by_cases h : x < 0
  · have d0 : decide (x < 0) = true := decide_eq_true h
    go_enter Try.func27, Try.ntmps27
    go_wp2_with fail
    go_ret
    exact ⟨by first | rfl | (rw [d0]; rfl), Drawn0.refl _⟩
  · have d0 : decide (x < 0) = false := decide_eq_false h
    go_enter Try.func27, Try.ntmps27
    by_cases h2 : x > 15
    · have d1 : decide (15 < x) = true := decide_eq_true h2
      go_wp2_with fail
      go_ret
      exact ⟨rfl, Drawn0.refl _⟩
    · have d1 : decide (15 < x) = false := decide_eq_false h2
      go_wp2_with fail
      go_ret
      exact ⟨rfl, Drawn0.refl _⟩
theorem cost_pred_enters : ∀ (args : Array Value) (W : World), (callFunc 27 args).run Try.prog W = .ok (.enter 27 args) W := fun args W => enters_ Try.func27 (by kernel_rfl) rfl args W
set_option maxHeartbeats 8000000 in
set_option maxRecDepth 100000 in
theorem tree_Cost.calls (A0 : Option Addr) (c0 : Nat) (l0 : List Int) (A1 : Option Addr) (c1 : Nat) (l1 : List Int) (r1 : Int) (r2 : Int) (w : World) (hr0 : Kd.C (Kd.int .i64) w A0 l0.length l0) (hc0 : l0.length ≤ c0) (hr1 : Kd.C (Kd.int .i64) w A1 l1.length l1) (hc1 : l1.length ≤ c1) (h : tree_Cost.f l0 l1 = some (r1, r2)) :
    Calls Try.prog 14 #[.slice A0 l0.length c0, .slice A1 l1.length c1] w fun e w' => e = .returned (.tuple #[.int .i64 r1, .int .i64 r2]) ∧ Below w.heap.size w w' := by
  have HR0 := Aside0.mk hr0
  have HR1 := Aside0.mk hr1
  have HC0 := Aside0.mk hc0
  have HC1 := Aside0.mk hc1
  unfold tree_Cost.f at h
  injection h with h
  have H := Aside0.mk h
  have hLm := hr0.2.1
  clear hr0 hr1 hc0 hc1 h
  by_cases hl : l0.length = l1.length
  · have hlb : ((l0.length : Int) != (l1.length : Int)) = false := bne_eq_false_iff_eq.2 (by omega)
    have hlb2 : ((l1.length : Int) != (l1.length : Int)) = false := bne_eq_false_iff_eq.2 rfl
    obtain ⟨q, hq⟩ : ∃ q, q = weighs l0 := ⟨_, rfl⟩
    obtain ⟨n, hn⟩ : ∃ n, n = if weighs l0 then (pos l0 : Int) else 0 := ⟨_, rfl⟩
    have HA := Aside0.mk (show tree_above.f 700 l0 = some (n, q) from by rw [above_is, hn, hq]; cases weighs l0 <;> rfl)
    have HQ := Aside0.mk hq
    have HL := Aside0.mk hl
    clear hq hn hl
    go_enter Try.func14, Try.ntmps14
    go_wp2_with fail
    refine (tree_above.calls 700 _ _ l0 n q w HR0.out HC0.out HA.out).mono ?_
    rintro e1 w1 ⟨rfl, hd⟩
    have HD := Aside0.mk hd
    clear hd
    cases q with
    | false =>
      go_wp2_with fail
      go_ret2
      have h := H.out
      rw [if_neg (by rw [HL.out]; exact fun h => h rfl), if_neg (by rw [← HQ.out]; simp)] at h
      simp only [Prod.mk.injEq] at h
      obtain ⟨rfl, rfl⟩ := h
      exact ⟨rfl, HD.out.below⟩
    | true =>
      obtain ⟨b, hb⟩ : ∃ b, b = l1.any badLen := ⟨_, rfl⟩
      have HB := Aside0.mk hb
      clear hb
      go_wp2_with fail
      refine (contains_func 27 badLen cost_pred_enters cost_pred A1 c1 l1 w1 (Kd.C_below HR1.out HD.out.below) HC1.out).mono ?_
      rintro e2 w2 ⟨rfl, hd2⟩
      have HD2 := Aside0.mk (below_then HD.out.below HD.out.below.size hd2.below)
      clear hd2
      rw [← HB.out]
      cases b with
      | true =>
        go_wp2_with fail
        go_ret2
        have h := H.out
        rw [if_neg (by rw [HL.out]; exact fun h => h rfl), if_neg (by rw [← HB.out]; simp)] at h
        simp only [Prod.mk.injEq] at h
        obtain ⟨rfl, rfl⟩ := h
        exact ⟨rfl, HD2.out⟩
      | false =>
        have hl3 := HL.out
        have hw := (weighs_iff l0).1 HQ.out.symm
        have hb := any_bad HB.out.symm
        have HW := Aside0.mk (And.intro hw.2 hb)
        have hle := hw.1
        clear hw hb
        go_wp2_with fail
        go_loopg [8, 29] l0.length (fun kq v8 v29 w' => ∃ i : Nat, v29 = .int .i64 i ∧ v8 = .int .i64 (costOf (l0.take i) (l1.take i)) ∧ i ≤ l0.length ∧ Aside0 (kq + i = l0.length) ∧ Aside0 (Below w.heap.size w w'))
        case atStart => exact ⟨0, rfl, by simp [costOf], by omega, ⟨rfl⟩, HD2⟩
        case round =>
          clear HD2
          obtain ⟨i, rfl, rfl, hi, HG, HD2⟩ := hrel
          by_cases hlt : i < l0.length
          · obtain ⟨ad0, rfl, hcell0⟩ := Kd.at_int (Kd.C_below HR0.out HD2.out) (i : Int) (by omega) (by omega)
            obtain ⟨ad1, rfl, hcell1⟩ := Kd.at_int (Kd.C_below HR1.out HD2.out) (i : Int) (by omega) (by omega)
            have hlt1 : i < l1.length := by omega
            have e0 : rd l0 (i : Int) = l0[i] := by unfold rd; rw [Int.toNat_natCast, List.getD_eq_getElem?_getD, List.getElem?_eq_getElem hlt]; rfl
            have e1 : rd l1 (i : Int) = l1[i] := by unfold rd; rw [Int.toNat_natCast, List.getD_eq_getElem?_getD, List.getElem?_eq_getElem hlt1]; rfl
            rw [Int.toNat_natCast, e0] at hcell0
            rw [Int.toNat_natCast, e1] at hcell1
            have HS := Aside0.mk (show costOf (l0.take (i + 1)) (l1.take (i + 1)) = costOf (l0.take i) (l1.take i) + l0[i] * l1[i] from by
              rw [List.take_succ_eq_append_getElem hlt, List.take_succ_eq_append_getElem hlt1]
              exact costOf_snoc _ _ _ _ (by rw [List.length_take, List.length_take, hl3]))
            obtain ⟨b1, b2⟩ := costOf_le (l0.take i) (l1.take i) (fun x hx => HW.out.1 x (List.mem_of_mem_take hx)) (fun x hx => HW.out.2 x (List.mem_of_mem_take hx))
            have bx := HW.out.1 _ (List.getElem_mem hlt)
            have bz := HW.out.2 _ (List.getElem_mem hlt1)
            have hm0 : 0 ≤ l0[i] * l1[i] := Int.mul_nonneg bx.1 bz.1
            have hm2 : l0[i] * l1[i] ≤ 1048576 * 15 := Int.mul_le_mul bx.2 bz.2 bz.1 (by omega)
            rw [List.length_take] at b2
            generalize costOf (l0.take i) (l1.take i) = s at *
            generalize l0[i] = x at *
            generalize l1[i] = y at *
            have hmi : ((min i l0.length : Nat) : Int) ≤ 300 := by omega
            have f1 : IntKind.i64.wrap (x * y) = x * y := by rw [IntWalk.i64_in _ (by omega)]
            have f2 : IntKind.i64.wrap (s + x * y) = s + x * y := by rw [IntWalk.i64_in _ (by omega)]
            have f3 : wrap64 (x * y) = x * y := by unfold wrap64; omega
            have f4 : wrap64 (s + x * y) = s + x * y := by unfold wrap64; omega
            clear e0 e1 bx bz b1 b2 hm0 hm2 hmi
            go_wp2_with fail
            go_roundg (gk - 1)
            case measure => have := HG.out; omega
            case rel => exact ⟨i + 1, by go_num, by rw [HS.out], by omega, ⟨by have := HG.out; omega⟩, HD2⟩
          · have hi2 : i = l0.length := by omega
            subst hi2
            have H2 := Aside0.mk (show l1.take l0.length = l1 from List.take_of_length_le (by omega))
            go_wp2_with fail
            go_ret2
            have h := H.out
            rw [if_neg (by rw [HL.out]; exact fun h => h rfl), if_pos ⟨HQ.out.symm, HB.out.symm⟩] at h
            simp only [Prod.mk.injEq] at h
            obtain ⟨rfl, rfl⟩ := h
            refine ⟨?_, HD2.out⟩
            rw [List.take_length, H2.out]
            rfl
  · have hlb : ((l0.length : Int) != (l1.length : Int)) = true := bne_iff_ne.2 (by omega)
    go_enter Try.func14, Try.ntmps14
    go_wp2_with fail
    go_ret2
    have h := H.out
    rw [if_pos hl] at h
    simp only [Prod.mk.injEq] at h
    obtain ⟨rfl, rfl⟩ := h
    exact ⟨rfl, Below.refl _ _⟩

-- PART
end Go.Proofs.Ytaoeghdpmmeaiaa.P
