-- Written by a program of this session out of the translation. Lean checks it.
import Derived.Test.YtcjijhjdkgjgeaaPx0
import Derived.Test.YtcjijhjdkgjgeaaPx2
import Derived.Test.YtcjijhjdkgjgeaaPx6
import Derived.Test.YtcjijhjdkgjgeaaPx8
import Derived.Test.YtcjijhjdkgjgeaaPx10
import Derived.Test.YtcjijhjdkgjgeaaPx12
namespace Go.Proofs.Ytcjijhjdkgjgeaa.P
open Go.RowKit Go.Proofs.YtcjijhjdkgjgeaaW.PrintWords Go.Proofs.YtcjijhjdkgjgeaaW.PrintLast Go.Proofs.YtcjijhjdkgjgeaaW.PrintMore
attribute [local go_sem] max2_int min2_int max_two min_two max_three min_three max_four min_four   -- for this text's walks alone
set_option linter.unusedVariables false
set_option linter.unusedSimpArgs false

-- PART
/-! ### grow_reader_coded: function 45 (by hand) -/
/-- A block of codes: up to its end, or to an error; none if so many rounds don't do. -/
def codedL (F1 : Nat → Int) (S1 : Nat → List Int) (F2 : Nat → Int) (S2 : Nat → List Int) (b : List Int) (most : Int) : Nat → RSt → Option RSt
  | 0, _ => none
  | n + 1, s => if s.er ≠ 0 then some s else (symS F1 S1 b s).bind fun r =>
      if r.2.er ≠ 0 ∨ r.1 = 256 then some r.2
      else if r.1 < 256 then (if r.2.out.length ≤ 1000000000 then codedL F1 S1 F2 S2 b most n (tellS most r.2 (r.1 % 256)) else none)
      else (pieceS F2 S2 b most r.2 r.1).bind (codedL F1 S1 F2 S2 b most n)
set_option maxHeartbeats 8000000 in
set_option maxRecDepth 100000 in
theorem rdr_coded (g : Nat) (b : List Int) (most : Int) (s : RSt) (base1 g1 : Nat) (F1 : Nat → Int) (S1 : Nat → List Int) (base2 g2 : Nat) (F2 : Nat → Int) (S2 : Nat → List Int) (N : Nat) (sr : RSt) (w0 w : World) (hR : Rdr w0 w g b most s) (hB : Below w0.heap.size w0 w) (hK1 : BookAt w base1 g1 F1 S1) (hK2 : BookAt w base2 g2 F2 S2) (h : codedL F1 S1 F2 S2 b most N s = some sr) :
    Calls Try.prog 45 #[.pointer (some ⟨g, 0, none⟩), .pointer (some ⟨g1, 0, none⟩), .pointer (some ⟨g2, 0, none⟩)] w fun r w' => r = .returned (.tuple #[]) ∧ Rdr w0 w' g b most sr ∧ Below w0.heap.size w0 w' ∧ KeepT w w' := by
  have H := Aside0.mk h
  have HR := Aside0.mk hR
  have HB := Aside0.mk hB
  have HA := Aside0.mk hK1
  have HC := Aside0.mk hK2
  clear h hR hB hK1 hK2
  go_enter Try.func45, Try.ntmps45
  go_wp2_with fail
  go_loopg [] N (fun kq w' => ∃ (si : RSt), Aside0 (codedL F1 S1 F2 S2 b most kq si = some sr) ∧ Aside0 (Rdr w0 w' g b most si) ∧ Aside0 (Below w0.heap.size w0 w') ∧ Aside0 (KeepT w w'))
  case atStart => exact ⟨s, H, HR, HB, ⟨KeepT.refl _⟩⟩
  case round =>
    clear H HR HB
    obtain ⟨si, HL, HR, HB, HK⟩ := hrel
    have h := HL.out
    match gk, h with
    | 0, h => unfold codedL at h; cases h
    | n + 1, h =>
      unfold codedL at h
      obtain ⟨A0, c0, A3, c3, hg, hge, hb, hc, ho⟩ := HR.out.cells
      have hcz5 : wr.cell? ⟨g, 5, none⟩ = some (.int .i64 si.er) := (blk_cell hg 5).trans rfl
      clear hg hb ho hc
      by_cases he : si.er = 0
      rotate_left
      · have d1 : (si.er == 0) = false := beq_eq_false_iff_ne.2 he
        rw [if_pos he] at h
        injection h with h
        subst h
        go_wp2_with fail
        go_end0
        exact ⟨rfl, HR.out, HB.out, HK.out⟩
      have d1 : (si.er == 0) = true := beq_iff_eq.2 he
      rw [if_neg (by rw [he]; simp)] at h
      obtain ⟨⟨y, s1⟩, hs, h⟩ := Option.bind_eq_some_iff.1 h
      have HS := Aside0.mk hs
      have H1 := Aside0.mk h
      clear hs h HL
      go_wp2_with fail
      refine (rdr_sym g b most si base1 g1 F1 S1 y s1 w0 wr HR.out HB.out (HA.out.keepT HK.out) HS.out).mono ?_
      rintro e w1 ⟨rfl, hR1, hB1, hK1⟩
      have HR1 := Aside0.mk hR1
      have HB1 := Aside0.mk hB1
      have HK1 := Aside0.mk (HK.out.trans hK1)
      clear hR1 hB1 hK1 HR HB HK hcz5
      obtain ⟨A1, c1, A4, c4, hg, hge1, hb, hc, ho⟩ := HR1.out.cells
      have hcz6 : w1.cell? ⟨g, 5, none⟩ = some (.int .i64 s1.er) := (blk_cell hg 5).trans rfl
      clear hg hb ho hc
      have h := H1.out
      by_cases he1 : s1.er = 0
      rotate_left
      · have d2 : (s1.er != 0) = true := bne_iff_ne.2 he1
        rw [if_pos (Or.inl he1)] at h
        injection h with h
        subst h
        go_wp2_with fail
        ((try simp only [Exit.inBlock, Exit.then]); refine bodyPost_ret (results_none rfl _ _ _) rfl ?_)
        exact ⟨rfl, HR1.out, HB1.out, HK1.out⟩
      have d2 : (s1.er != 0) = false := by rw [he1]; rfl
      by_cases hy : y = 256
      · have d3 : (y == 256) = true := beq_iff_eq.2 hy
        rw [if_pos (Or.inr hy)] at h
        injection h with h
        subst h
        go_wp2_with fail
        ((try simp only [Exit.inBlock, Exit.then]); refine bodyPost_ret (results_none rfl _ _ _) rfl ?_)
        exact ⟨rfl, HR1.out, HB1.out, HK1.out⟩
      have d3 : (y == 256) = false := beq_eq_false_iff_ne.2 hy
      rw [if_neg (fun hh => hh.elim (fun h => h he1) hy)] at h
      by_cases hlt : y < 256
      · have d4 : decide (y < 256) = true := decide_eq_true hlt
        rw [if_pos hlt] at h
        by_cases hol : s1.out.length ≤ 1000000000
        rotate_left
        · rw [if_neg hol] at h; cases h
        rw [if_pos hol] at h
        have HL2 := Aside0.mk h
        have HO5 := Aside0.mk hol
        clear h hol H1 hy hlt he1
        go_wp2_with fail
        refine (rdr_tell g b most s1 (y % 256) w0 w1 HR1.out HB1.out HO5.out).mono ?_
        rintro e w6 ⟨rfl, hR6, hB6, hK6⟩
        have HR6 := Aside0.mk hR6
        have HB6 := Aside0.mk hB6
        have HK6 := Aside0.mk (HK1.out.trans hK6)
        clear hR6 hB6 hK6 HR1 HB1 HK1 hcz6
        go_wp2_with fail
        go_roundg n
        case measure => omega
        case rel => exact ⟨_, HL2, HR6, HB6, HK6⟩
      · have d4 : decide (y < 256) = false := decide_eq_false hlt
        rw [if_neg hlt] at h
        obtain ⟨s2, hp, h⟩ := Option.bind_eq_some_iff.1 h
        have HP := Aside0.mk hp
        have HL2 := Aside0.mk h
        clear h hp H1 hy hlt he1
        go_wp2_with fail
        refine (rdr_piece g b most s1 y base2 g2 F2 S2 s2 w0 w1 HR1.out HB1.out (HC.out.keepT HK1.out) HP.out).mono ?_
        rintro e w6 ⟨rfl, hR6, hB6, hK6⟩
        have HR6 := Aside0.mk hR6
        have HB6 := Aside0.mk hB6
        have HK6 := Aside0.mk (HK1.out.trans hK6)
        clear hR6 hB6 hK6 HR1 HB1 HK1 hcz6
        go_wp2_with fail
        go_roundg n
        case measure => omega
        case rel => exact ⟨_, HL2, HR6, HB6, HK6⟩

-- PART
end Go.Proofs.Ytcjijhjdkgjgeaa.P
