-- Written by a program of this session out of the translation. Lean checks it.
import Derived.Test.YtaoeghdpmmeaiaaPx0
namespace Go.Proofs.Ytaoeghdpmmeaiaa.P
open Go.RowKit Go.Proofs.YtaoeghdpmmeaiaaW.PrintWords Go.Proofs.YtaoeghdpmmeaiaaW.PrintLast Go.Proofs.YtaoeghdpmmeaiaaW.PrintMore
attribute [local go_sem] max2_int min2_int max_two min_two max_three min_three max_four min_four   -- for this text's walks alone
set_option linter.unusedVariables false
set_option linter.unusedSimpArgs false

-- PART
/-! ### slices_Max_int_int: function 22 (by hand) -/
/-- The greatest one of a row that is not empty. -/
def maxOf (m : Int) : List Int → Int
  | [] => m
  | x :: xs => maxOf (if m < x then x else m) xs
theorem maxOf_snoc (x : Int) : ∀ (m : Int) (xs : List Int), maxOf m (xs ++ [x]) = if maxOf m xs < x then x else maxOf m xs
  | m, [] => rfl
  | m, y :: ys => maxOf_snoc x _ ys
theorem maxOf_step (x0 : Int) (xs : List Int) (i : Nat) (h1 : 1 ≤ i) (h : i < (x0 :: xs).length) : (if maxOf x0 (xs.take (i - 1)) < rd (x0 :: xs) (i : Int) then rd (x0 :: xs) (i : Int) else maxOf x0 (xs.take (i - 1))) = maxOf x0 (xs.take (i + 1 - 1)) := by
  obtain ⟨j, rfl⟩ : ∃ j, i = j + 1 := ⟨i - 1, by omega⟩
  have hlen : j < xs.length := by simp at h; exact h
  have e : rd (x0 :: xs) ((j + 1 : Nat) : Int) = xs[j] := by
    unfold rd
    rw [Int.toNat_natCast, List.getD_eq_getElem?_getD, List.getElem?_cons_succ, List.getElem?_eq_getElem hlen]; rfl
  rw [e, Nat.add_sub_cancel, Nat.add_sub_cancel, List.take_succ_eq_append_getElem hlen, maxOf_snoc]
def slices_Max_int_int.f (l0 : List Int) : Option (Int) := match l0 with
  | [] => none
  | x :: xs => some (maxOf x xs)
set_option maxHeartbeats 8000000 in
set_option maxRecDepth 100000 in
theorem slices_Max_int_int.calls (A0 : Option Addr) (c0 : Nat) (l0 : List Int) (r : Int) (w : World) (hr0 : Kd.C (Kd.int .i64) w A0 l0.length l0) (hc0 : l0.length ≤ c0) (h : slices_Max_int_int.f l0 = some r) :
    Calls Try.prog 22 #[.slice A0 l0.length c0] w fun e w' => e = .returned (.int .i64 r) ∧ Below w.heap.size w w' := by
  cases l0 with
  | nil => simp [slices_Max_int_int.f] at h
  | cons x0 xs =>
    unfold slices_Max_int_int.f at h
    injection h with h
    have HR := Aside0.mk hr0
    have HC := Aside0.mk hc0
    obtain ⟨L, hL⟩ : ∃ L, L = (x0 :: xs).length := ⟨_, rfl⟩
    have hL1 : 1 ≤ L := by rw [hL]; simp
    have hLm : L ≤ 9223372036854775807 := by rw [hL]; exact hr0.2.1
    have HL := Aside0.mk hL
    have H := Aside0.mk h
    rw [← hL]
    clear hr0 hc0 h hL
    have hlt1 : decide ((L : Int) < 1) = false := decide_eq_false (by omega)
    have hlt2 : decide (L < 1) = false := decide_eq_false (by omega)
    obtain ⟨ad, rfl, hcell0⟩ := Kd.at_int HR.out 0 (by omega) (by rw [← HL.out]; omega)
    rw [show rd (x0 :: xs) 0 = x0 from rfl, show ((0 : Int)).toNat = 0 from rfl, show ad.add 0 = ad from by unfold Addr.add; simp] at hcell0
    have hpos : (0 : Int) < (L : Int) := by omega
    go_enter Try.func22, Try.ntmps22
    go_wp2_with fail
    clear hcell0
    go_loop [3, 4] (fun v3 v4 => ∃ i : Nat, 1 ≤ i ∧ i ≤ L ∧ v3 = .int .i64 (maxOf x0 (xs.take (i - 1))) ∧ v4 = .int .i64 i) (fun _ v4 => L - (intOf v4).toNat)
    case atStart => exact ⟨1, by omega, by omega, rfl, rfl⟩
    case round =>
      obtain ⟨i, hi1, hi2, rfl, rfl⟩ := hrel
      by_cases hlt : i < L
      · obtain ⟨ad2, e2, hcell⟩ := Kd.at_int HR.out (i : Int) (by omega) (by rw [← HL.out]; omega)
        injection e2 with e2
        subst e2
        obtain ⟨y, hy⟩ : ∃ y, y = rd (x0 :: xs) (i : Int) := ⟨_, rfl⟩
        rw [← hy, Int.toNat_natCast] at hcell
        obtain ⟨m, hm⟩ : ∃ m, m = maxOf x0 (xs.take (i - 1)) := ⟨_, rfl⟩
        rw [← hm]
        have HM := Aside0.mk (maxOf_step x0 xs i hi1 (by rw [← HL.out]; exact hlt))
        rw [← hm, ← hy] at HM
        clear hm hy
        have hmx := max2_int .i64 .i64 m y
        go_wp2_with fail
        exact ⟨⟨i + 1, by omega, by omega, by rw [HM.out], by go_num⟩, by simp [intOf]; omega⟩
      · have hi3 : i = L := by omega
        subst hi3
        go_wp2_with fail
        go_ret
        refine ⟨?_, Below.refl _ _⟩
        rw [← H.out, List.take_of_length_le (by have := HL.out; simp at this; omega)]
        rfl

-- PART
end Go.Proofs.Ytaoeghdpmmeaiaa.P
