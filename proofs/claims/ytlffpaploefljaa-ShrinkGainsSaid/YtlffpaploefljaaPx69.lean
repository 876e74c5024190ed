-- Written by a program of this session out of the translation. Lean checks it.
import Derived.Test.YtlffpaploefljaaPx0
import Derived.Test.YtlffpaploefljaaPx51
import Derived.Test.YtlffpaploefljaaPx62
namespace Go.Proofs.Ytlffpaploefljaa.P
open Go.RowKit Go.Proofs.YtlffpaploefljaaW.PrintWords Go.Proofs.YtlffpaploefljaaW.PrintLast Go.Proofs.YtlffpaploefljaaW.PrintMore
open List (setIfInBounds_toArray set_cons_zero set_cons_succ)
attribute [local go_sem] max2_int min2_int max_two min_two max_three min_three max_four min_four   -- for this text's walks alone
set_option linter.unusedVariables false
set_option linter.unusedSimpArgs false

/-! ### wherryref01_Grow: function 15 (by hand) -/
/-- What stands in a block of a kind. -/
def kindR (b : List Int) (most : Int) (N : Nat) (kd p : Int) (out : List Int) : Option (Int × List Int) :=
 if kd = 0 then storedR b most p out
 else if kd = 1 then (wherryref01_Fixed.f 6000).bind fun x => (wherryref01_codes.f 8000 x.1).bind fun a1 => (wherryref01_codes.f 8000 x.2).bind fun a2 => textR x.1 a1 x.2 a2 b most N p out
 else if kd = 2 then dynR b most N p out else none
/-- Blocks up to the last one. -/
def blocksR (b : List Int) (most : Int) (N : Nat) : Nat → Int → List Int → Int → Option (Int × List Int × Int)
 | 0, _, _, _ => none
 | k + 1, p, out, n => (getR b p 1).bind fun r1 => (getR b r1.2 2).bind fun r2 => (kindR b most N r2.1 r2.2 out).bind fun t => if r1.1 = 0 then blocksR b most N k t.1 t.2 (wrap64 (n + 1)) else some (t.1, t.2, wrap64 (n + 1))
def wherryref01_Grow.f (l0 : List Int) (a1 : Int) : Option (List Int × Int × Int) :=
 (blocksR l0 a1 50000 400 0 [] 0).bind fun t => (padR l0 8 t.1).bind fun p => if p = 8 * (l0.length : Int) ∧ l0.length ≤ 1000000 then some (t.2.1, t.2.2, 0) else none
set_option maxHeartbeats 8000000 in
set_option maxRecDepth 100000 in
theorem wherryref01_Grow.calls (A0 : Option Addr) (c0 : Nat) (l0 : List Int) (a1 : Int) (r1 : List Int) (r2 : Int) (r3 : Int) (w : World) (hr0 : Kd.C (Kd.int .u8) w A0 l0.length l0) (hc0 : l0.length ≤ c0) (h : wherryref01_Grow.f l0 a1 = some (r1, r2, r3)) :
  Calls Try.prog 15 #[.slice A0 l0.length c0, .int .i64 a1] w fun e w' => ∃ v0_ : Value, e = .returned (.tuple #[v0_, .int .i64 r2, .int .i64 r3]) ∧ Kd.R (Kd.int .u8) 5 w' w.heap.size (fun _ => True) v0_ r1 ∧ Below w.heap.size w w' := by
 unfold wherryref01_Grow.f at h
 obtain ⟨⟨p1, oe, ne⟩, hs, h⟩ := Option.bind_eq_some_iff.1 h
 obtain ⟨p2, hp, h⟩ := Option.bind_eq_some_iff.1 h
 by_cases hfin : p2 = 8 * (l0.length : Int) ∧ l0.length ≤ 1000000
 rotate_left
 ·rw [if_neg hfin] at h; cases h
 rw [if_pos hfin] at h
 injection h with h
 injection h with e1 h
 injection h with e2 e3
 simp only at e1 e2 e3 hp
 subst e1 e2 e3
 have HS := Aside0.mk hs
 have HP := Aside0.mk hp
 have HFin := Aside0.mk hfin
 have HN := Aside0.mk (show RdrR w (w.alloc (.cells #[.slice A0 l0.length c0, .int .i64 0, .int .i64 0, .slice none 0 0, .int .i64 a1] 68)) w.heap.size l0 a1 0 [] from ⟨A0, c0, _, blk_new w _, Nat.le_refl _, hr0, hc0, Kd.R_nil _ _ _ _ _⟩)
 have HB := Aside0.mk (show Below w.heap.size w (w.alloc (.cells #[.slice A0 l0.length c0, .int .i64 0, .int .i64 0, .slice none 0 0, .int .i64 a1] 68)) from (Below.refl _ _).alloc (Nat.le_refl _) _)
 clear hr0 h hs hp hfin
 go_enter Try.func15, Try.ntmps15
 go_wp2_with fail
 go_loopg [8, 9] 401 (fun kq v8 v9 w' => ∃ (last n p : Int) (oi : List Int), v8 = .int .i64 n ∧ v9 = .int .i64 last ∧ Aside0 ((if last = 0 then 1 else 0) ≤ kq ∧ (if last = 0 then blocksR l0 a1 50000 (kq - 1) p oi n else some (p, oi, n)) = some (p1, oe, ne)) ∧ Aside0 (RdrR w w' w.heap.size l0 a1 p oi) ∧ Aside0 (Below w.heap.size w w'))
 case atStart => exact ⟨0, 0, 0, [], rfl, rfl, ⟨by decide, HS.out⟩, HN, HB⟩
 case round =>
  clear HS HN HB
  obtain ⟨last, n, p, oi, rfl, rfl, HL, HR, HB⟩ := hrel
  obtain ⟨A1, c1, A4, c4, hg, hge1, hb, hc, ho⟩ := HR.out.cells
  have hcz2 : wr.cell? ⟨w.heap.size, 2, none⟩ = some (.int .i64 0) := (blk_cell hg 2).trans rfl
  clear hg hb ho hc
  obtain ⟨hk1, h⟩ := HL.out
  by_cases hl : last = 0
  ·have d0 : (last == 0) = true := beq_iff_eq.2 hl
   rw [if_pos hl] at h hk1
   obtain ⟨m, rfl⟩ : ∃ m, gk = m + 1 := ⟨gk - 1, by omega⟩
   rw [Nat.add_sub_cancel] at h
   match m, h with
   | 0, h => unfold blocksR at h; cases h
   | m + 1, h =>
   unfold blocksR at h
   obtain ⟨⟨v1, q1⟩, h1, h⟩ := Option.bind_eq_some_iff.1 h
   obtain ⟨⟨v2, q2⟩, h2, h⟩ := Option.bind_eq_some_iff.1 h
   obtain ⟨⟨q3, o3⟩, h3, h⟩ := Option.bind_eq_some_iff.1 h
   have H1 := Aside0.mk h1
   have H2 := Aside0.mk h2
   have H3 := Aside0.mk (show kindR l0 a1 50000 v2 q2 oi = some (q3, o3) from h3)
   have HX : Aside0 ((if v1 = 0 then 1 else 0) ≤ m + 1 ∧ (if v1 = 0 then blocksR l0 a1 50000 (m + 1 - 1) q3 o3 (wrap64 (n + 1)) else some (q3, o3, wrap64 (n + 1))) = some (p1, oe, ne)) := ⟨⟨by split <;> omega, h⟩⟩
   clear h1 h2 h3 h hk1 HL hl
   go_wp2_with fail
   refine (rr_get w.heap.size l0 a1 p 1 v1 q1 oi w wr HR.out HB.out H1.out).mono ?_
   rintro e wa ⟨rfl, hRa, hBa, _⟩
   have HRa := Aside0.mk hRa
   have HBa := Aside0.mk hBa
   clear hRa hBa HR HB H1 hcz2
   go_wp2_with fail
   refine (rr_get w.heap.size l0 a1 q1 2 v2 q2 oi w wa HRa.out HBa.out H2.out).mono ?_
   rintro e wb ⟨rfl, hRb, hBb, _⟩
   have HRb := Aside0.mk hRb
   have HBb := Aside0.mk hBb
   clear hRb hBb HRa HBa H2
   obtain ⟨A1, c1, A4, c4, hg, hge1, hb, hc, ho⟩ := HRb.out.cells
   have hcz2 : wb.cell? ⟨w.heap.size, 2, none⟩ = some (.int .i64 0) := (blk_cell hg 2).trans rfl
   clear hg hb ho hc
   have h := H3.out
   unfold kindR at h
   by_cases hk0 : v2 = 0
   ·have d1 : (v2 == 0) = true := beq_iff_eq.2 hk0
    rw [if_pos hk0] at h
    have HK := Aside0.mk h
    clear h H3 hk0
    go_wp2_with fail
    refine (rr_stored w.heap.size l0 a1 q2 q3 oi o3 w wb HRb.out HBb.out HK.out).mono ?_
    rintro e wc ⟨rfl, hRc, hBc, _⟩
    have HRc := Aside0.mk hRc
    have HBc := Aside0.mk hBc
    clear hRc hBc HRb HBb HK hcz2
    go_wp2_with fail
    go_roundg (m + 1)
    case measure => omega
    case rel => exact ⟨v1, _, q3, o3, rfl, rfl, HX, HRc, HBc⟩
   have d1 : (v2 == 0) = false := beq_eq_false_iff_ne.2 hk0
   rw [if_neg hk0] at h
   by_cases hk1 : v2 = 1
   ·have d2 : (v2 == 1) = true := beq_iff_eq.2 hk1
    rw [if_pos hk1] at h
    obtain ⟨⟨lf, df⟩, hf, h⟩ := Option.bind_eq_some_iff.1 h
    obtain ⟨a1f, ha1, h⟩ := Option.bind_eq_some_iff.1 h
    obtain ⟨a2f, ha2, h⟩ := Option.bind_eq_some_iff.1 h
    have HF := Aside0.mk hf
    have HA1 := Aside0.mk ha1
    have HA2 := Aside0.mk ha2
    have HK := Aside0.mk h
    clear h H3 hk0 hk1 hf ha1 ha2
    go_wp2_with fail
    refine (wherryref01_Fixed.calls 6000 lf df wb HF.out).mono ?_
    rintro e wx ⟨vl, vd, rfl, hol, hod, hbx⟩
    obtain ⟨Al, cl, e1⟩ := Kd.R_slice hol
    obtain ⟨Ad, cd, e2⟩ := Kd.R_slice hod
    subst e1 e2
    have HOl := Aside0.mk hol
    have HOd := Aside0.mk hod
    have HRx := Aside0.mk (HRb.out.below hbx)
    have HBx := Aside0.mk (show Below w.heap.size w wx from below_then HBb.out HBb.out.size hbx)
    clear hol hod hbx HRb HBb hcz2
    go_wp2_with fail
    refine (rr_text w.heap.size l0 a1 q2 q3 oi o3 Al cl lf Ad cd df a1f a2f 50000 w wx HRx.out HBx.out (fun W hW => (Kd.R_reads' (introw_keepR HOl.out hW)).2.2) (Kd.R_reads' HOl.out).2.1 (fun W hW => (Kd.R_reads' (introw_keepR HOd.out hW)).2.2) (Kd.R_reads' HOd.out).2.1 HA1.out HA2.out HK.out).mono ?_
    rintro e wc ⟨rfl, hRc, hBc, _⟩
    have HRc := Aside0.mk hRc
    have HBc := Aside0.mk hBc
    clear hRc hBc HRx HBx HK HOl HOd
    go_wp2_with fail
    go_roundg (m + 1)
    case measure => omega
    case rel => exact ⟨v1, _, q3, o3, rfl, rfl, HX, HRc, HBc⟩
   have d2 : (v2 == 1) = false := beq_eq_false_iff_ne.2 hk1
   rw [if_neg hk1] at h
   by_cases hk2 : v2 = 2
   ·have d3 : (v2 == 2) = true := beq_iff_eq.2 hk2
    rw [if_pos hk2] at h
    have HK := Aside0.mk h
    clear h H3 hk0 hk1 hk2
    go_wp2_with fail
    refine (rr_dynamic w.heap.size l0 a1 q2 q3 oi o3 50000 w wb HRb.out HBb.out HK.out).mono ?_
    rintro e wc ⟨rfl, hRc, hBc, _⟩
    have HRc := Aside0.mk hRc
    have HBc := Aside0.mk hBc
    clear hRc hBc HRb HBb HK hcz2
    go_wp2_with fail
    go_roundg (m + 1)
    case measure => omega
    case rel => exact ⟨v1, _, q3, o3, rfl, rfl, HX, HRc, HBc⟩
   rw [if_neg hk2] at h; cases h
  ·have d0 : (last == 0) = false := beq_eq_false_iff_ne.2 hl
   rw [if_neg hl] at h
   injection h with h
   injection h with e1 h
   injection h with e2 e3
   subst e1 e2 e3
   clear hk1 HL hl
   go_wp2_with fail
   go_loopg [] 8 (fun kq w' => ∃ (pj : Int), Aside0 (padR l0 kq pj = some p2) ∧ Aside0 (RdrR w w' w.heap.size l0 a1 pj oi) ∧ Aside0 (Below w.heap.size w w'))
   case atStart => exact ⟨p, HP, HR, HB⟩
   case round =>
    clear HP HR HB hcz2
    obtain ⟨pj, HP, HR, HB⟩ := hrel
    obtain ⟨A1, c1, A4, c4, hg, hge1, hb, hc, ho⟩ := HR.out.cells
    have hcz1 : wr.cell? ⟨w.heap.size, 1, none⟩ = some (.int .i64 pj) := (blk_cell hg 1).trans rfl
    have hcz2 : wr.cell? ⟨w.heap.size, 2, none⟩ = some (.int .i64 0) := (blk_cell hg 2).trans rfl
    have hcz3 : wr.cell? ⟨w.heap.size, 3, none⟩ = some (.slice A4 oi.length c4) := (blk_cell hg 3).trans rfl
    have HO := Aside0.mk ho
    clear hg hb ho hc
    have h := HP.out
    by_cases hz : pj % 8 = 0
    ·have e : pj = p2 := by
      cases gk <;> (unfold padR at h; rw [if_pos hz] at h; injection h)
     have dz0 : Int.tmod pj 8 = 0 := Int.tmod_eq_zero_of_dvd (Int.dvd_of_emod_eq_zero hz)
     have dz : (wrap64 (Int.tmod pj 8) != 0) = false := by rw [dz0]; decide +kernel
     have dz2 : (Int.tmod pj 8 != 0) = false := by rw [dz0]; rfl
     have hf := HFin.out
     have hw8 : wrap64 (8 * (l0.length : Int)) = pj := by unfold wrap64; omega
     have d8 : (pj != pj) = false := by simp
     subst e
     clear h HP hz hf
     go_wp2_with fail
     go_ret3
     exact ⟨_, rfl, HO.out, HB.out⟩
    ·have hpj : Int.tmod pj 8 ≠ 0 := fun he => hz (Int.emod_eq_zero_of_dvd (Int.dvd_of_tmod_eq_zero he))
     match gk, h with
     | 0, h => unfold padR at h; rw [if_neg hz] at h; cases h
     | m + 1, h =>
     unfold padR at h
     rw [if_neg hz] at h
     by_cases hp0 : 0 ≤ pj
     rotate_left
     ·rw [if_neg hp0] at h; cases h
     rw [if_pos hp0] at h
     obtain ⟨⟨x, pn⟩, hx, h⟩ := Option.bind_eq_some_iff.1 h
     by_cases hx0 : x = 0
     rotate_left
     ·rw [if_neg hx0] at h; cases h
     rw [if_pos hx0] at h
     subst hx0
     have dzn : Int.tmod pj 8 = pj % 8 := Int.tmod_eq_emod_of_nonneg hp0
     have dz : (wrap64 (Int.tmod pj 8) != 0) = true := bne_iff_ne.2 (by rw [dzn]; unfold wrap64; omega)
     have dz2 : (Int.tmod pj 8 != 0) = true := bne_iff_ne.2 (by rw [dzn]; omega)
     have HX := Aside0.mk hx
     have HNx := Aside0.mk h
     clear h hx HP dzn hcz3 HO hpj
     go_wp2_with fail
     refine (rr_get w.heap.size l0 a1 pj 1 0 pn oi w wr HR.out HB.out HX.out).mono ?_
     rintro e w5 ⟨rfl, hR5, hB5, _⟩
     have HR5 := Aside0.mk hR5
     have HB5 := Aside0.mk hB5
     clear hR5 hB5 HR HB hcz1 hcz2
     go_wp2_with fail
     go_roundg m
     case measure => omega
     case rel => exact ⟨pn, HNx, HR5, HB5⟩

end Go.Proofs.Ytlffpaploefljaa.P
