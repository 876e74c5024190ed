-- Written by a program of this session out of the translation. Lean checks it.
import Derived.Test.YtcjijhjdkgjgeaaPx0
import Derived.Test.YtcjijhjdkgjgeaaPx2
import Derived.Test.YtcjijhjdkgjgeaaPx4
namespace Go.Proofs.Ytcjijhjdkgjgeaa.P
open Go.RowKit Go.Proofs.YtcjijhjdkgjgeaaW.PrintWords Go.Proofs.YtcjijhjdkgjgeaaW.PrintLast Go.Proofs.YtcjijhjdkgjgeaaW.PrintMore
attribute [local go_sem] max2_int min2_int max_two min_two max_three min_three max_four min_four   -- for this text's walks alone
set_option linter.unusedVariables false
set_option linter.unusedSimpArgs false

-- PART
/-! ### grow_reader_pad: function 49 (by hand) -/
/-- Noughts up to a whole byte. -/
def padS (b : List Int) (s : RSt) : Option RSt := if 0 ≤ s.pos ∧ s.pos ≤ 1099511627776 then (takeS b s (((8 - s.pos.toNat % 8) % 8 : Nat) : Int)).bind fun r => some (wantS r.2 (r.1 == 0) 3) else none
set_option maxHeartbeats 8000000 in
set_option maxRecDepth 100000 in
theorem rdr_pad (g : Nat) (b : List Int) (most : Int) (s : RSt) (s1 : RSt) (w0 w : World) (hR : Rdr w0 w g b most s) (hB : Below w0.heap.size w0 w) (h : padS b s = some s1) :
    Calls Try.prog 49 #[.pointer (some ⟨g, 0, none⟩)] w fun r w' => r = .returned (.tuple #[]) ∧ Rdr w0 w' g b most s1 ∧ Below w0.heap.size w0 w' ∧ KeepT w w' := by
  obtain ⟨A0, c0, A3, c3, hg, hge, hb, hc, ho⟩ := hR.cells
  by_cases hrange : 0 ≤ s.pos ∧ s.pos ≤ 1099511627776
  rotate_left
  · unfold padS at h
    rw [if_neg hrange] at h
    cases h
  obtain ⟨h0, h1⟩ := hrange
  obtain ⟨p, hp⟩ : ∃ p : Nat, s.pos = (p : Int) := ⟨s.pos.toNat, by omega⟩
  have HB := Aside0.mk hB
  have HR := Aside0.mk hR
  unfold padS at h
  rw [if_pos ⟨h0, h1⟩] at h
  rw [hp] at h hg h1
  rw [Int.toNat_natCast] at h
  have hcz1 : w.cell? ⟨g, 1, none⟩ = some (.int .i64 (p : Int)) := (blk_cell hg 1).trans rfl
  obtain ⟨⟨v, s2⟩, ht, h2⟩ := Option.bind_eq_some_iff.1 h
  injection h2 with h2
  have HT := Aside0.mk ht
  have H2 := Aside0.mk h2
  clear hg hB hb ho hR h ht h2 h0 hp
  go_enter Try.func49, Try.ntmps49
  go_wp2_with fail
  rw [show (-((p : Int) % 8) % 8) = (((8 - p % 8) % 8 : Nat) : Int) from by omega]
  refine (rdr_take g b most s _ v s2 w0 w HR.out HB.out HT.out).mono ?_
  rintro e w1 ⟨rfl, hR1, hB1, hK1⟩
  have HR1 := Aside0.mk hR1
  have HB1 := Aside0.mk hB1
  have HK1 := Aside0.mk hK1
  clear hR1 hB1 hK1 hcz1
  go_wp2_with fail
  refine (rdr_want g b most s2 (v == 0) 3 w0 w1 HR1.out HB1.out).mono ?_
  rintro e w2 ⟨rfl, hR2, hB2, hK2⟩
  rw [H2.out] at hR2 ⊢
  have HR2 := Aside0.mk hR2
  have HB2 := Aside0.mk hB2
  have HK2 := Aside0.mk hK2
  clear hR2 hB2 hK2
  go_wp2_with fail
  go_end0
  exact ⟨rfl, HR2.out, HB2.out, HK1.out.trans HK2.out⟩

-- PART
end Go.Proofs.Ytcjijhjdkgjgeaa.P
