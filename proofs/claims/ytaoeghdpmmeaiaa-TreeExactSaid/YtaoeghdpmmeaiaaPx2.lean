-- Written by a program of this session out of the translation. Lean checks it.
import Derived.Test.YtaoeghdpmmeaiaaPx0
namespace Go.Proofs.Ytaoeghdpmmeaiaa.P
open Go.RowKit Go.Proofs.YtaoeghdpmmeaiaaW.PrintWords Go.Proofs.YtaoeghdpmmeaiaaW.PrintLast Go.Proofs.YtaoeghdpmmeaiaaW.PrintMore
attribute [local go_sem] max2_int min2_int max_two min_two max_three min_three max_four min_four   -- for this text's walks alone
set_option linter.unusedVariables false
set_option linter.unusedSimpArgs false

-- PART
/-! ### slices_IndexFunc_int_int: function 35 (by hand) -/
/-- The first place at which p holds; -1: none. -/
def firstBad (p : Int → Bool) : List Int → Nat → Int
  | [], _ => -1
  | x :: xs, i => if p x then (i : Int) else firstBad p xs (i + 1)
theorem firstBad_drop (p : Int → Bool) (l : List Int) (i : Nat) (h : i < l.length) : firstBad p (l.drop i) i = if p (l.getD i 0) then (i : Int) else firstBad p (l.drop (i + 1)) (i + 1) := by
  rw [List.drop_eq_getElem_cons h, show l.getD i 0 = l[i] from by rw [List.getD_eq_getElem?_getD, List.getElem?_eq_getElem h]; rfl]
  rfl
theorem firstBad_iff (p : Int → Bool) : ∀ (l : List Int) (i : Nat), 0 ≤ firstBad p l i ↔ l.any p = true
  | [], _ => by simp [firstBad]
  | x :: xs, i => by
    have e : firstBad p (x :: xs) i = if p x = true then (i : Int) else firstBad p xs (i + 1) := rfl
    rw [e, List.any_cons]
    by_cases h : p x = true
    · rw [if_pos h, h]; simp
    · rw [if_neg h, firstBad_iff p xs (i + 1)]
      simp [h]
theorem firstBad_any (p : Int → Bool) (l : List Int) (i : Nat) : decide (0 ≤ firstBad p l i) = l.any p := by
  rw [Bool.eq_iff_iff, decide_eq_true_iff, firstBad_iff]
set_option maxHeartbeats 8000000 in
set_option maxRecDepth 100000 in
theorem index_func (F : Nat) (p : Int → Bool) (hE : ∀ (args : Array Value) (W : World), (callFunc F args).run Try.prog W = .ok (.enter F args) W) (hF : ∀ (x : Int) (W : World), Calls Try.prog F #[.int .i64 x] W fun e W' => e = .returned (.bool (p x)) ∧ Drawn0 W W') (A0 : Option Addr) (c0 : Nat) (l0 : List Int) (w : World)
    (hr0 : Kd.C (Kd.int .i64) w A0 l0.length l0) (hc0 : l0.length ≤ c0) :
    Calls Try.prog 35 #[.slice A0 l0.length c0, .func (.func F) #[] #[]] w fun e w' => e = .returned (.int .i64 (firstBad p l0 0)) ∧ Drawn0 w w' := by
  have HR := Aside0.mk hr0
  have hLm : l0.length ≤ 9223372036854775807 := hr0.2.1
  have HF := Aside0.mk hF
  have HD := Aside0.mk (Drawn0.refl w)
  clear hr0 hF
  go_enter Try.func35, Try.ntmps35
  go_wp2_with fail
  go_loopg [8] l0.length (fun kq v8 w' => ∃ i : Nat, v8 = .int .i64 i ∧ i ≤ l0.length ∧ Aside0 (kq + i = l0.length) ∧ Aside0 (firstBad p (l0.drop i) i = firstBad p l0 0) ∧ Aside0 (Drawn0 w w'))
  case atStart => exact ⟨0, rfl, by omega, ⟨rfl⟩, ⟨rfl⟩, HD⟩
  case round =>
    clear HD
    obtain ⟨i, rfl, hi, HG, HP, HD⟩ := hrel
    by_cases hlt : i < l0.length
    · obtain ⟨ad, rfl, hcell⟩ := Kd.at_int (Kd.C_below HR.out HD.out.below) (i : Int) (by omega) (by omega)
      have HS := Aside0.mk (firstBad_drop p l0 i hlt)
      have e : rd l0 (i : Int) = l0.getD i 0 := by unfold rd; rw [Int.toNat_natCast]
      rw [Int.toNat_natCast, e] at hcell
      generalize l0.getD i 0 = x at hcell HS
      clear e
      have hEx := hE #[.int .i64 x] wr
      go_wp2_with fail
      refine (HF.out x wr).mono ?_
      rintro e1 w1 ⟨rfl, hd⟩
      have HD1 := Aside0.mk (show Drawn0 w w1 from by
        obtain ⟨m1, e1⟩ := HD.out.out
        obtain ⟨m2, e2⟩ := hd.out
        rw [e1] at e2
        exact ⟨⟨m1 + m2, by rw [e2, World.drewN_drewN]⟩⟩)
      clear hEx hcell hd
      generalize p x = q at HS ⊢
      cases q with
      | true =>
        go_wp2_with fail
        go_ret
        have h := HS.out
        rw [if_pos trivial, HP.out] at h
        rw [h]
        exact ⟨rfl, HD1.out⟩
      | false =>
        go_wp2_with fail
        go_roundg (gk - 1)
        case measure => have := HG.out; omega
        case rel => exact ⟨i + 1, by go_num, by omega, ⟨by have := HG.out; omega⟩, ⟨by rw [← HP.out, HS.out]; rfl⟩, HD1⟩
    · have hi2 : i = l0.length := by omega
      subst hi2
      go_wp2_with fail
      go_ret
      have h := HP.out
      rw [List.drop_of_length_le (Nat.le_refl _)] at h
      rw [← h]
      exact ⟨rfl, HD.out⟩

-- PART
end Go.Proofs.Ytaoeghdpmmeaiaa.P
