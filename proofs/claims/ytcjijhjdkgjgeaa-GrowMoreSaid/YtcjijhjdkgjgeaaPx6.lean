-- Written by a program of this session out of the translation. Lean checks it.
import Derived.Test.YtcjijhjdkgjgeaaPx0
import Derived.Test.YtcjijhjdkgjgeaaPx2
namespace Go.Proofs.Ytcjijhjdkgjgeaa.P
open Go.RowKit Go.Proofs.YtcjijhjdkgjgeaaW.PrintWords Go.Proofs.YtcjijhjdkgjgeaaW.PrintLast Go.Proofs.YtcjijhjdkgjgeaaW.PrintMore
attribute [local go_sem] max2_int min2_int max_two min_two max_three min_three max_four min_four   -- for this text's walks alone
set_option linter.unusedVariables false
set_option linter.unusedSimpArgs false

-- PART
/-! ### grow_reader_tell: function 62 (by hand) -/
/-- A byte is told, where there is room. -/
def tellS (most : Int) (s : RSt) (c : Int) : RSt := if (wantS s (decide ((s.out.length : Int) < most)) 2).er = 0 then { wantS s (decide ((s.out.length : Int) < most)) 2 with out := s.out ++ [c] } else wantS s (decide ((s.out.length : Int) < most)) 2
theorem wantS_out (s : RSt) (is : Bool) (e : Int) : (wantS s is e).out = s.out ∧ (wantS s is e).pos = s.pos ∧ (wantS s is e).bl = s.bl := by
  unfold wantS
  split <;> exact ⟨rfl, rfl, rfl⟩
set_option maxHeartbeats 8000000 in
set_option maxRecDepth 100000 in
theorem rdr_tell (g : Nat) (b : List Int) (most : Int) (s : RSt) (c : Int) (w0 w : World) (hR : Rdr w0 w g b most s) (hB : Below w0.heap.size w0 w) (hl : s.out.length ≤ 1000000000) :
    Calls Try.prog 62 #[.pointer (some ⟨g, 0, none⟩), .int .u8 c] w fun r w' => r = .returned (.tuple #[]) ∧ Rdr w0 w' g b most (tellS most s c) ∧ Below w0.heap.size w0 w' ∧ KeepT w w' := by
  obtain ⟨A0, c0, A3, c3, hg, hge, hb, hc, ho⟩ := hR.cells
  have HG := Aside0.mk hg
  have HB := Aside0.mk hB
  have HO := Aside0.mk ho
  have HR := Aside0.mk hR
  have HL := Aside0.mk hl
  have hcz2 : w.cell? ⟨g, 2, none⟩ = some (.int .i64 most) := (blk_cell HG.out 2).trans rfl
  have hcz3 : w.cell? ⟨g, 3, none⟩ = some (.slice A3 s.out.length c3) := (blk_cell HG.out 3).trans rfl
  clear hg hB hb ho hR hl
  go_enter Try.func62, Try.ntmps62
  go_upto_region 0 with fail
  go_region_with (go_at_call 48; refine (rdr_want g b most s (decide ((s.out.length : Int) < most)) 2 w0 w.drew (HR.out.below (Below.refl _ _).drew) HB.out.drew).mono ?_; rintro e w1 ⟨rfl, hR1, hB1, hK1⟩; have HR1 := Aside0.mk hR1; have HB1 := Aside0.mk hB1; have HK1 := Aside0.mk hK1; clear hR1 hB1 hK1)
  all_goals
    have HK2 := Aside0.mk ((KeepT.of_below (Below.refl _ w).drew).trans HK1.out)
    obtain ⟨e1, e2, e3⟩ := wantS_out s (decide ((s.out.length : Int) < most)) 2
    have HT := Aside0.mk (show tellS most s c = if (wantS s (decide ((s.out.length : Int) < most)) 2).er = 0 then { wantS s (decide ((s.out.length : Int) < most)) 2 with out := s.out ++ [c] } else wantS s (decide ((s.out.length : Int) < most)) 2 from rfl)
    have HE := Aside0.mk e1
    clear e1 e2 e3 HK1 hcz2 hcz3 HG HO
    generalize wantS s (decide ((s.out.length : Int) < most)) 2 = s1 at HR1 HT HE ⊢
    by_cases h0 : s1.er = 0
    · have d0 : (s1.er == 0) = true := beq_iff_eq.2 h0
      obtain ⟨A1, c1, A4, c4, hg2, hge2, hb2, hc2, ho2⟩ := HR1.out.cells
      have HG2 := Aside0.mk hg2
      have HO2 := Aside0.mk ho2
      have HC2 := Aside0.mk hb2
      have hcz3 : w1.cell? ⟨g, 3, none⟩ = some (.slice A4 s1.out.length c4) := (blk_cell HG2.out 3).trans rfl
      have hfz3 := blk_frozen HG2.out 3
      clear hg2 hb2 ho2
      go_wp2_with ((with_reducible refine gate_builtin (b := .append) (xs := #[.tmp 20, .tmp 22]) rfl ?_); at_builtin; refine Kd.R_append (Kd.int .u8) (w0 := w0) w0.heap.size rfl (.tmp 20) (.tmp 22) 22 5 (.int .u8 0) 1 rfl Try.underlying22 info5 rfl (by decide) (by omega) (.slice A4 s1.out.length c4) s1.out c [.int .u8 c] (fun _ => True) (fun _ => False) rfl rfl rfl (fun _ hk => hk.elim) (fun _ _ => trivial) HO2.out HB1.out HB1.out.size (by rw [HE.out]; have := HL.out; omega) ?_; intro v5 w5 ho hb hg hat; (obtain ⟨A5, c5, e5⟩ := Kd.R_slice ho); (subst e5); (have HN5 := Aside0.mk (And.intro ho (And.intro hb hg))); (have hcz5 : w5.cell? ⟨g, 3, none⟩ = some (.slice A4 s1.out.length c4) := (blk_cell (blk_grown HG2.out hg (Kd.R_ne HO2.out HG2.out (by decide))) 3).trans rfl); (have hfz5 : w5.frozen? ⟨g, 3, none⟩ = false := blk_frozen (blk_grown HG2.out hg (Kd.R_ne HO2.out HG2.out (by decide))) 3); clear ho hb hg hat)
      go_end0
      obtain ⟨ho, hb, hgr⟩ := HN5.out
      have HG5 := blk_grown HG2.out hgr (Kd.R_ne HO2.out HG2.out (by decide))
      rw [HT.out, if_pos h0, ← HE.out]
      have ho2 : Kd.R (Kd.int .u8) 5 w5 w0.heap.size (fun _ => True) (.slice A5 (s1.out.length + 1) c5) (s1.out ++ [c]) := by
        have e : s1.out.length + 1 = (s1.out ++ [c]).length := by simp
        rw [e]
        exact ho
      refine ⟨rfl, ⟨A1, c1, _, blk_put HG5 3 _ rfl, hge2, HC2.out, hc2, Rdr.put HG5 ho2 3 _⟩, hb.setCell (p := ⟨g, 3, none⟩) hge2 _, (HK2.out.trans (KeepT.grown hgr fun r hr => ?_)).trans (KeepT.put HG5 3 _)⟩
      exact own_typed (Kd.own_of_R HO2.out) r hr
    · have d0 : (s1.er == 0) = false := beq_eq_false_iff_ne.2 h0
      go_wp2_with fail
      go_end0
      rw [HT.out, if_neg h0]
      exact ⟨rfl, HR1.out, HB1.out, HK2.out⟩

-- PART
end Go.Proofs.Ytcjijhjdkgjgeaa.P
