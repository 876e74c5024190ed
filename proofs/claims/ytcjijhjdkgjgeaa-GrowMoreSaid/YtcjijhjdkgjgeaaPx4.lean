-- Written by a program of this session out of the translation. Lean checks it.
import Derived.Test.YtcjijhjdkgjgeaaPx0
import Derived.Test.YtcjijhjdkgjgeaaPx2
import Derived.Test.YtcjijhjdkgjgeaaPx3
namespace Go.Proofs.Ytcjijhjdkgjgeaa.P
open Go.RowKit Go.Proofs.YtcjijhjdkgjgeaaW.PrintWords Go.Proofs.YtcjijhjdkgjgeaaW.PrintLast Go.Proofs.YtcjijhjdkgjgeaaW.PrintMore
attribute [local go_sem] max2_int min2_int max_two min_two max_three min_three max_four min_four   -- for this text's walks alone
set_option linter.unusedVariables false
set_option linter.unusedSimpArgs false

-- PART
/-! ### grow_reader_take: function 43 (by hand) -/
/-- A number of so many bits. -/
def takeS (b : List Int) (s : RSt) (n : Int) : Option (Int × RSt) :=
  if s.er ≠ 0 then some (0, s) else (bits_Get.f 40 b s.pos n).bind fun r => if r.2.2 = 0 then some (r.1, { s with pos := r.2.1 }) else some (0, { s with er := 3 })
set_option maxHeartbeats 8000000 in
set_option maxRecDepth 100000 in
theorem rdr_take (g : Nat) (b : List Int) (most : Int) (s : RSt) (n : Int) (v : Int) (s1 : RSt) (w0 w : World) (hR : Rdr w0 w g b most s) (hB : Below w0.heap.size w0 w) (h : takeS b s n = some (v, s1)) :
    Calls Try.prog 43 #[.pointer (some ⟨g, 0, none⟩), .int .i64 n] w fun r w' => r = .returned (.int .i64 v) ∧ Rdr w0 w' g b most s1 ∧ Below w0.heap.size w0 w' ∧ KeepT w w' := by
  obtain ⟨A0, c0, A3, c3, hg, hge, hb, hc, ho⟩ := hR.cells
  have HG := Aside0.mk hg
  have HB := Aside0.mk hB
  have HC := Aside0.mk hb
  have HO := Aside0.mk ho
  have HR := Aside0.mk hR
  have H := Aside0.mk h
  have hcz0 : w.cell? ⟨g, 0, none⟩ = some (.slice A0 b.length c0) := (blk_cell HG.out 0).trans rfl
  have hcz1 : w.cell? ⟨g, 1, none⟩ = some (.int .i64 s.pos) := (blk_cell HG.out 1).trans rfl
  have hcz5 : w.cell? ⟨g, 5, none⟩ = some (.int .i64 s.er) := (blk_cell HG.out 5).trans rfl
  clear hg hB hb ho hR h
  go_enter Try.func43, Try.ntmps43
  by_cases h0 : s.er = 0
  · have d0 : (s.er != 0) = false := by rw [h0]; rfl
    have h1 := H.out
    unfold takeS at h1
    rw [if_neg (by rw [h0]; simp)] at h1
    obtain ⟨⟨r1, r2, r3⟩, hr, h2⟩ := Option.bind_eq_some_iff.1 h1
    have HGet := Aside0.mk hr
    have H2 := Aside0.mk h2
    clear h1 hr h2 H
    go_upto_region 3 with fail
    go_region_with (go_at_call 61; refine (bits_Get.calls 40 _ _ b s.pos n r1 r2 r3 w.drew (Kd.C_below HC.out HB.out.drew) hc HGet.out).mono ?_; rintro e w1 ⟨rfl, hd⟩; have HD := Aside0.mk hd; clear hd)
    all_goals
      have hb1 : Below w.heap.size w w1 := below_then (Below.refl _ _).drew (Nat.le_refl _) HD.out.below
      have HR1 := Aside0.mk (HR.out.below hb1)
      have HB1 := Aside0.mk (show Below w0.heap.size w0 w1 from below_then HB.out HB.out.size hb1)
      have HK1 := Aside0.mk (KeepT.of_below hb1)
      clear hcz0 hcz1 hcz5 hb1 HD HG
      go_wp2_with fail
      refine (rdr_want g b most s (r3 == 0) 3 w0 w1 HR1.out HB1.out).mono ?_
      rintro e w2 ⟨rfl, hR2, hB2, hK2⟩
      by_cases h3 : r3 = 0
      · have e1 : wantS s (r3 == 0) 3 = s := want_in h0 (beq_iff_eq.2 h3)
        rw [e1] at hR2 ⊢
        have d1 : (s.er == 0) = true := beq_iff_eq.2 h0
        have h4 := H2.out
        rw [if_pos h3] at h4
        injection h4 with h4
        injection h4 with h4 h5
        subst h4 h5
        obtain ⟨A1, c1, A4, c4, hg2, hge2, hb2, hc2, ho2⟩ := hR2.cells
        have HG2 := Aside0.mk hg2
        have HB2 := Aside0.mk hB2
        have HO2 := Aside0.mk ho2
        have HK2 := Aside0.mk hK2
        have HC2 := Aside0.mk hb2
        have hfz := blk_frozen HG2.out 1
        have hczs : w2.cell? ⟨g, 1, none⟩ = some (.int .i64 s.pos) := (blk_cell HG2.out 1).trans rfl
        clear hg2 hB2 ho2 hK2 hb2 hR2 e1
        go_wp2_with fail
        go_ret
        exact ⟨rfl, ⟨A1, c1, _, blk_put HG2.out 1 (.int .i64 r2) rfl, hge2, HC2.out, hc2, Rdr.put HG2.out HO2.out 1 _⟩, HB2.out.setCell (p := ⟨g, 1, none⟩) hge2 _, (HK1.out.trans HK2.out).trans (KeepT.put HG2.out 1 _)⟩
      · have e1 : wantS s (r3 == 0) 3 = { s with er := 3 } := by unfold wantS; rw [if_pos ⟨h0, beq_eq_false_iff_ne.2 h3⟩]
        rw [e1] at hR2 ⊢
        have h4 := H2.out
        rw [if_neg h3] at h4
        injection h4 with h4
        injection h4 with h4 h5
        subst h4 h5
        have HR2 := Aside0.mk hR2
        have HB2 := Aside0.mk hB2
        have HK2 := Aside0.mk hK2
        clear hR2 hB2 hK2 e1
        go_wp2_with fail
        go_ret
        exact ⟨rfl, HR2.out, HB2.out, HK1.out.trans HK2.out⟩
  · have d0 : (s.er != 0) = true := bne_iff_ne.2 h0
    go_wp2_with fail
    go_ret
    have h1 := H.out
    unfold takeS at h1
    rw [if_pos h0] at h1
    injection h1 with h1
    injection h1 with h1 h2
    subst h1 h2
    exact ⟨rfl, HR.out, HB.out, KeepT.refl _⟩

-- PART
end Go.Proofs.Ytcjijhjdkgjgeaa.P
