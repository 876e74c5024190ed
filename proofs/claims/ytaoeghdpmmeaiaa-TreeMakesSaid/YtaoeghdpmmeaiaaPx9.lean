-- Written by a program of this session out of the translation. Lean checks it.
import Derived.Test.YtaoeghdpmmeaiaaPx0
import Derived.Test.YtaoeghdpmmeaiaaPx8
namespace Go.Proofs.Ytaoeghdpmmeaiaa.P
open Go.RowKit Go.Proofs.YtaoeghdpmmeaiaaW.PrintWords Go.Proofs.YtaoeghdpmmeaiaaW.PrintLast Go.Proofs.YtaoeghdpmmeaiaaW.PrintMore
attribute [local go_sem] max2_int min2_int max_two min_two max_three min_three max_four min_four   -- for this text's walks alone
set_option linter.unusedVariables false
set_option linter.unusedSimpArgs false

-- PART
/-! ### slices_Concat_int_int: function 33 (by hand) -/
set_option maxHeartbeats 8000000 in
set_option maxRecDepth 100000 in
/-- Two rows one behind the other, in memory of their own. -/
theorem concat_two (gc : Nat) (A1 A2 : Option Addr) (c1 c2 : Nat) (s1 s2 : List Int) (w : World) (hg1 : w.cell? ⟨gc, 0, none⟩ = some (.slice A1 s1.length c1)) (hg2 : w.cell? ⟨gc, 1, none⟩ = some (.slice A2 s2.length c2))
    (hr1 : Kd.C (Kd.int .i64) w A1 s1.length s1) (hr2 : Kd.C (Kd.int .i64) w A2 s2.length s2) (hc1 : s1.length ≤ c1) (hc2 : s2.length ≤ c2) (hl : s1.length + s2.length ≤ 1000000) :
    Calls Try.prog 33 #[.slice (some ⟨gc, 0, none⟩) 2 2] w fun e w' => ∃ v, e = .returned v ∧ Kd.R (Kd.int .i64) 3 w' w.heap.size (fun _ => True) v (s1 ++ s2) ∧ Below w.heap.size w w' := by
  have H1 := Aside0.mk (And.intro hr1 hc1)
  have H2 := Aside0.mk (And.intro hr2 hc2)
  have HG := Aside0.mk (And.intro hg1 hg2)
  clear hr1 hr2 hc1 hc2
  obtain ⟨L1, hL1⟩ : ∃ L, L = s1.length := ⟨_, rfl⟩
  obtain ⟨L2, hL2⟩ : ∃ L, L = s2.length := ⟨_, rfl⟩
  have HL := Aside0.mk (And.intro hL1 hL2)
  rw [← hL1] at hg1 hl
  rw [← hL2] at hg2 hl
  clear hL1 hL2
  have hg3 : w.cell? ((⟨gc, 0, none⟩ : Addr).add 0) = some (.slice A1 L1 c1) := hg1
  go_enter Try.func33, Try.ntmps33
  go_wp2_with fail
  go_loop [3, 11] (fun v3 v11 => ∃ i : Nat, i ≤ 2 ∧ v11 = .int .i64 i ∧ v3 = .int .i64 ((if i = 0 then 0 else if i = 1 then L1 else L1 + L2 : Nat) : Int)) (fun _ v11 => 2 - (intOf v11).toNat)
  case atStart => exact ⟨0, by omega, rfl, rfl⟩
  case round =>
    obtain ⟨i, hi, rfl, rfl⟩ := hrel
    have hi3 : i = 0 ∨ i = 1 ∨ i = 2 := by omega
    rcases hi3 with rfl | rfl | rfl
    · simp only [if_true]
      go_wp2_with fail
      exact ⟨⟨1, by omega, rfl, rfl⟩, by decide⟩
    · simp only [if_true, Nat.one_ne_zero, if_false]
      go_wp2_with fail
      exact ⟨⟨2, by omega, rfl, by go_num⟩, by decide⟩
    · simp only [show ¬ (2 : Nat) = 0 from by decide, show ¬ (2 : Nat) = 1 from by decide, if_false]
      obtain ⟨n, hn⟩ : ∃ n, n = L1 + L2 := ⟨_, rfl⟩
      rw [← hn]
      have hnl : n ≤ 1000000 := by omega
      have hn2 := Aside0.mk hn
      clear hn
      go_wp2_with fail
      refine (grow_nil n w hnl).mono ?_
      rintro e1 w1 ⟨v0, rfl, ho, hb⟩
      have HO := Aside0.mk ho
      have HB := Aside0.mk hb
      clear ho hb hg1 hg2 hg3
      have hn2 := hn2.out
      go_wp2_with fail
      go_loopg [6, 27] 2 (fun kq v6 v27 w' => ∃ i : Nat, i ≤ 2 ∧ v27 = .int .i64 i ∧ Aside0 (kq + i = 2) ∧ Aside0 (Kd.R (Kd.int .i64) 3 w' w.heap.size (fun _ => True) v6 (if i = 0 then [] else if i = 1 then s1 else s1 ++ s2)) ∧ Aside0 (Below w.heap.size w w'))
      case atStart => exact ⟨0, by omega, rfl, ⟨rfl⟩, HO, HB⟩
      case round =>
        clear HO HB
        obtain ⟨i, hi, rfl, HG2, HO, HB⟩ := hrel
        obtain ⟨A6, c6, e6⟩ := Kd.R_slice HO.out
        subst e6
        have hg1 := pw_cell_below HB.out HG.out.1
        have hg2 := pw_cell_below HB.out HG.out.2
        rw [← HL.out.1] at hg1
        rw [← HL.out.2] at hg2
        have hg3 : wr.cell? ((⟨gc, 0, none⟩ : Addr).add 0) = some (.slice A1 L1 c1) := hg1
        have hi3 : i = 0 ∨ i = 1 ∨ i = 2 := by omega
        rcases hi3 with rfl | rfl | rfl
        · simp only [if_true] at HO ⊢
          go_wp2_with ((with_reducible refine gate_builtin (b := .append) (xs := #[.tmp 31, .tmp 32]) rfl ?_); at_builtin; refine Kd.R_append_row (Value.int .i64) 0 (w0 := w) w.heap.size rfl (.tmp 31) (.tmp 32) 22 3 (.int .i64 0) 8 rfl Try.underlying22 info3 rfl (by decide) (.slice A6 ([] : List Int).length c6) [] s1 A1 L1 c1 (fun _ => True) rfl rfl (fun _ _ => trivial) HO.out (HL.out.1 ▸ Kd.C_below H1.out.1 HB.out) HB.out HB.out.size (by have := HL.out; simp; omega) ?_; intro v2 w2 ho2 hb2 hg_ hat2; (have HO2 := Aside0.mk ho2); (have HB2 := Aside0.mk hb2); clear ho2 hb2 hg_ hat2)
          go_roundg (gk - 1)
          case measure => have := HG2.out; omega
          case rel => exact ⟨1, by omega, rfl, ⟨by have := HG2.out; omega⟩, ⟨by have h := HO2.out; rw [List.nil_append] at h; exact h⟩, HB2⟩
        · simp only [if_true, Nat.one_ne_zero, if_false] at HO ⊢
          go_wp2_with ((with_reducible refine gate_builtin (b := .append) (xs := #[.tmp 31, .tmp 32]) rfl ?_); at_builtin; refine Kd.R_append_row (Value.int .i64) 0 (w0 := w) w.heap.size rfl (.tmp 31) (.tmp 32) 22 3 (.int .i64 0) 8 rfl Try.underlying22 info3 rfl (by decide) (.slice A6 s1.length c6) s1 s2 A2 L2 c2 (fun _ => True) rfl rfl (fun _ _ => trivial) HO.out (HL.out.2 ▸ Kd.C_below H2.out.1 HB.out) HB.out HB.out.size (by have := HL.out; omega) ?_; intro v2 w2 ho2 hb2 hg_ hat2; (have HO2 := Aside0.mk ho2); (have HB2 := Aside0.mk hb2); clear ho2 hb2 hg_ hat2)
          go_roundg (gk - 1)
          case measure => have := HG2.out; omega
          case rel => exact ⟨2, by omega, rfl, ⟨by have := HG2.out; omega⟩, ⟨HO2.out⟩, HB2⟩
        · simp only [show ¬ (2 : Nat) = 0 from by decide, show ¬ (2 : Nat) = 1 from by decide, if_false] at HO ⊢
          go_wp2_with fail
          go_ret
          exact ⟨_, rfl, HO.out, HB.out⟩

-- PART
end Go.Proofs.Ytaoeghdpmmeaiaa.P
