-- Written by a program of this session out of the translation. Lean checks it.
import Derived.Test.YtagdlmlanjjecaaPx0
import Derived.Test.YtagdlmlanjjecaaPx2
import Derived.Test.YtagdlmlanjjecaaPx4
namespace Go.Proofs.Ytagdlmlanjjecaa.P
open Go.RowKit Go.Proofs.YtagdlmlanjjecaaW.PrintWords Go.Proofs.YtagdlmlanjjecaaW.PrintLast Go.Proofs.YtagdlmlanjjecaaW.PrintMore
attribute [local go_sem] max2_int min2_int max_two min_two max_three min_three max_four min_four   -- for this text's walks alone
set_option linter.unusedVariables false
set_option linter.unusedSimpArgs false

-- PART
/-! ### match_Best: function 16 (by hand) -/
/-- The places that were noted, of the first so many. -/
def noted (l : List Int) : Nat → (Int → Int → Int → List Int)
  | 0 => fun _ _ _ => []
  | i + 1 => addAt (noted l i) l i
theorem noted_lt (l : List Int) : ∀ i x y z p, p ∈ noted l i x y z → 0 ≤ p ∧ p < (i : Int)
  | 0, x, y, z, p, h => by simp [noted] at h
  | i + 1, x, y, z, p, h => by
    simp only [noted, addAt] at h
    split at h
    · have := noted_lt l i x y z p h; omega
    · unfold upd3 at h
      split at h
      · rcases List.mem_append.1 h with h | h
        · have := noted_lt l i _ _ _ p h; omega
        · have := List.mem_singleton.1 h; omega
      · have := noted_lt l i x y z p h; omega
def match_Best.f (l0 : List Int) (a1 : Int) : Option (Int × Int) :=
  if l0.all (fun x => (Lit.int .u8 x).wf) = true then (if a1 < 0 then some (0, 0) else if a1 ≥ (l0.length : Int) then some (0, 0) else if (l0.length : Int) > 4096 then some (0, 0) else
    some (((bestL (noted l0 a1.toNat) l0 a1.toNat).1 : Int), ((bestL (noted l0 a1.toNat) l0 a1.toNat).2 : Int))) else none
set_option maxHeartbeats 8000000 in
set_option maxRecDepth 100000 in
theorem match_Best.calls (A0 : Option Addr) (c0 : Nat) (l0 : List Int) (a1 : Int) (r1 : Int) (r2 : Int) (w : World) (hr0 : Kd.C (Kd.int .u8) w A0 l0.length l0) (hc0 : l0.length ≤ c0) (h : match_Best.f l0 a1 = some (r1, r2)) :
    Calls Try.prog 16 #[.slice A0 l0.length c0, .int .i64 a1] w fun e w' => e = .returned (.tuple #[.int .i64 r1, .int .i64 r2]) ∧ Below w.heap.size w w' := by
  unfold match_Best.f at h
  by_cases hwf : l0.all (fun x => (Lit.int .u8 x).wf) = true
  · rw [if_pos hwf] at h
    have hw : ∀ x ∈ l0, (Lit.int .u8 x).wf = true := fun x hx => List.all_eq_true.1 hwf x hx
    have HW := Aside0.mk hw
    have HR := Aside0.mk hr0
    have HC := Aside0.mk hc0
    clear hwf hw hr0 hc0
    have hmm := @run_makeMap Try.prog
    by_cases h0 : a1 < 0
    · rw [if_pos h0] at h
      simp only [Option.some.injEq, Prod.mk.injEq] at h
      obtain ⟨rfl, rfl⟩ := h
      go_enter Try.func16, Try.ntmps16
      go_wp2_with fail
      go_ret2
      exact ⟨rfl, Below.refl _ _⟩
    · rw [if_neg h0] at h
      by_cases h1 : a1 ≥ (l0.length : Int)
      · rw [if_pos h1] at h
        simp only [Option.some.injEq, Prod.mk.injEq] at h
        obtain ⟨rfl, rfl⟩ := h
        go_enter Try.func16, Try.ntmps16
        go_wp2_with fail
        go_ret2
        exact ⟨rfl, Below.refl _ _⟩
      · rw [if_neg h1] at h
        obtain ⟨i, rfl⟩ := Int.eq_ofNat_of_zero_le (show 0 ≤ a1 by omega)
        rw [Int.toNat_natCast] at h
        by_cases h2 : (l0.length : Int) > 4096
        · rw [if_pos h2] at h
          simp only [Option.some.injEq, Prod.mk.injEq] at h
          obtain ⟨rfl, rfl⟩ := h
          go_enter Try.func16, Try.ntmps16
          go_wp2_with fail
          go_ret2
          exact ⟨rfl, Below.refl _ _⟩
        · rw [if_neg h2] at h
          simp only [Option.some.injEq, Prod.mk.injEq] at h
          obtain ⟨rfl, rfl⟩ := h
          have hi : i < l0.length := by omega
          have hl : l0.length ≤ 4096 := by omega
          have hS := seen_made w w.heap.size (Nat.le_refl _)
          have hB := below_alloc (Below.refl w.heap.size w) (.map #[] 0)
          have HS := Aside0.mk hS
          have HB := Aside0.mk hB
          clear hS hB
          go_enter Try.func16, Try.ntmps16
          go_wp2_with fail
          go_loopg [23] i (fun kq v23 w' => ∃ j : Nat, v23 = .int .i64 j ∧ j ≤ i ∧ Aside0 (kq + j = i) ∧ Aside0 (Seen w' w.heap.size w.heap.size j (noted l0 j)) ∧ Aside0 (Below w.heap.size w w'))
          case atStart => exact ⟨0, rfl, Nat.zero_le _, ⟨rfl⟩, HS, HB⟩
          case round =>
            clear HS HB
            obtain ⟨j, rfl, hj, HK, HS, HB⟩ := hrel
            by_cases hlt : j < i
            · go_wp2_with fail
              refine (seen_add w.heap.size j (noted l0 j) _ _ l0 j w wr HB.out HS.out (Kd.C_below HR.out HB.out) HC.out HW.out (by omega) (by omega) (by omega)).mono ?_
              rintro e1 w2 ⟨rfl, hs2, hb2, _⟩
              have HS2 := Aside0.mk hs2
              have HB2 := Aside0.mk hb2
              clear hs2 hb2
              go_wp2_with fail
              go_roundg (i - (j + 1))
              case measure => have := HK.out; omega
              case rel => exact ⟨j + 1, by go_num, by omega, ⟨by omega⟩, HS2, HB2⟩
            · obtain rfl : j = i := by omega
              go_wp2_with fail
              refine (seen_best w.heap.size j w.heap.size (noted l0 j) _ _ l0 j wr HS.out (Kd.C_below HR.out HB.out) HC.out HW.out (by omega) (by omega) (by omega) (fun x y z p => noted_lt l0 j x y z p)).mono ?_
              rintro e1 w2 ⟨rfl, hb2⟩
              have HB2 := Aside0.mk (HB.out.trans (hb2.mono HB.out.size))
              clear hb2
              go_wp2_with fail
              go_ret2
              exact ⟨rfl, HB2.out⟩
  · rw [if_neg hwf] at h
    cases h

-- PART
end Go.Proofs.Ytagdlmlanjjecaa.P
