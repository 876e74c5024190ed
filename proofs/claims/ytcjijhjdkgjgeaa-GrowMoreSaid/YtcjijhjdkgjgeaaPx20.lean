-- Written by a program of this session out of the translation. Lean checks it.
import Derived.Test.YtcjijhjdkgjgeaaPx0
import Derived.Test.YtcjijhjdkgjgeaaPx2
import Derived.Test.YtcjijhjdkgjgeaaPx4
import Derived.Test.YtcjijhjdkgjgeaaPx8
import Derived.Test.YtcjijhjdkgjgeaaPx13
import Derived.Test.YtcjijhjdkgjgeaaPx16
import Derived.Test.YtcjijhjdkgjgeaaPx18
import Derived.Test.YtcjijhjdkgjgeaaPx19
namespace Go.Proofs.Ytcjijhjdkgjgeaa.P
open Go.RowKit Go.Proofs.YtcjijhjdkgjgeaaW.PrintWords Go.Proofs.YtcjijhjdkgjgeaaW.PrintLast Go.Proofs.YtcjijhjdkgjgeaaW.PrintMore
attribute [local go_sem] max2_int min2_int max_two min_two max_three min_three max_four min_four   -- for this text's walks alone
set_option linter.unusedVariables false
set_option linter.unusedSimpArgs false

-- PART
/-! ### grow_reader_dynamic: function 47 (by hand) -/
/-- A block of lengths of its own: behind the row of lengths. -/
def dynC (b : List Int) (most : Int) (M : Nat) (row : List Int) (nl : Int) (s : RSt) : Option RSt :=
  if s.er ≠ 0 then some s else if 257 ≤ nl ∧ nl ≤ row.length ∧ row.length ≤ 1000 then
    (canon_Check.f (row.take nl.toNat)).bind fun e1 => (canon_Check.f (row.drop nl.toNat)).bind fun e2 =>
      if (wantS s ((e1 == 0) && (e2 == 0) && decide (0 < rd (row.take nl.toNat) 256)) 3).er ≠ 0 then some (wantS s ((e1 == 0) && (e2 == 0) && decide (0 < rd (row.take nl.toNat) 256)) 3)
      else codedL (fun n => (openF (row.take nl.toNat) n : Int)) (symsTo (row.take nl.toNat) (row.take nl.toNat).length) (fun n => (openF (row.drop nl.toNat) n : Int)) (symsTo (row.drop nl.toNat) (row.drop nl.toNat).length) b most M (wantS s ((e1 == 0) && (e2 == 0) && decide (0 < rd (row.take nl.toNat) 256)) 3)
  else none
def dynB (b : List Int) (most : Int) (N M : Nat) (own : List Int) (nl nd : Int) (s : RSt) : Option RSt :=
  if s.er ≠ 0 then some s else if rightB own = true then (rowL (fun n => (openF own n : Int)) (symsTo own own.length) b (wrap64 (nl + nd)) N [] s).bind fun r => dynC b most M r.1 nl r.2 else none
def dynA (b : List Int) (most : Int) (N M : Nat) (nl nd m : Int) (s : RSt) : Option RSt :=
  if s.er ≠ 0 then some s else (ownS b s m).bind fun o => dynB b most N M o.1 nl nd o.2
def dynS (b : List Int) (most : Int) (N M : Nat) (s : RSt) : Option RSt :=
  (takeS b s 5).bind fun r1 => (takeS b r1.2 5).bind fun r2 => (takeS b r2.2 4).bind fun r3 =>
    dynA b most N M (wrap64 (257 + r1.1)) (wrap64 (1 + r2.1)) (wrap64 (4 + r3.1)) (wantS r3.2 (decide (wrap64 (257 + r1.1) ≤ 286) && decide (wrap64 (1 + r2.1) ≤ 30)) 3)
set_option maxHeartbeats 8000000 in
set_option maxRecDepth 100000 in
theorem rdr_dynamic (g : Nat) (b : List Int) (most : Int) (N M : Nat) (s sr : RSt) (w0 w : World) (hR : Rdr w0 w g b most s) (hB : Below w0.heap.size w0 w) (h : dynS b most N M s = some sr) :
    Calls Try.prog 47 #[.pointer (some ⟨g, 0, none⟩)] w fun r w' => r = .returned (.tuple #[]) ∧ Rdr w0 w' g b most sr ∧ Below w0.heap.size w0 w' ∧ KeepT w w' := by
  unfold dynS at h
  obtain ⟨⟨v1, s1⟩, ha, h⟩ := Option.bind_eq_some_iff.1 h
  obtain ⟨⟨v2, s2⟩, hb, h⟩ := Option.bind_eq_some_iff.1 h
  obtain ⟨⟨v3, s3⟩, hc, h⟩ := Option.bind_eq_some_iff.1 h
  have H := Aside0.mk h
  have HA := Aside0.mk ha
  have HBb := Aside0.mk hb
  have HC := Aside0.mk hc
  clear h ha hb hc
  go_enter Try.func47, Try.ntmps47
  go_wp2_with fail
  refine (rdr_take g b most s 5 v1 s1 w0 w hR hB HA.out).mono ?_
  rintro e w1 ⟨rfl, hR1, hB1, hK1⟩
  have HR1 := Aside0.mk hR1
  have HB1 := Aside0.mk hB1
  have HK1 := Aside0.mk hK1
  clear hR1 hB1 hK1 hR hB
  go_wp2_with fail
  refine (rdr_take g b most s1 5 v2 s2 w0 w1 HR1.out HB1.out HBb.out).mono ?_
  rintro e w2 ⟨rfl, hR2, hB2, hK2⟩
  have HR2 := Aside0.mk hR2
  have HB2 := Aside0.mk hB2
  have HK2 := Aside0.mk (HK1.out.trans hK2)
  clear hR2 hB2 hK2 HR1 HB1 HK1
  go_wp2_with fail
  refine (rdr_take g b most s2 4 v3 s3 w0 w2 HR2.out HB2.out HC.out).mono ?_
  rintro e w3 ⟨rfl, hR3, hB3, hK3⟩
  have HR3 := Aside0.mk hR3
  have HB3 := Aside0.mk hB3
  have HK3 := Aside0.mk (HK2.out.trans hK3)
  clear hR3 hB3 hK3 HR2 HB2 HK2 HA HBb HC
  go_upto_region 1 with fail
  generalize wrap64 (257 + v1) = nl at H ⊢
  generalize wrap64 (1 + v2) = nd at H ⊢
  generalize wrap64 (4 + v3) = m at H ⊢
  obtain ⟨q, hq⟩ : ∃ q, (decide (nl ≤ 286) && decide (nd ≤ 30)) = q := ⟨_, rfl⟩
  rw [hq] at H
  obtain ⟨s4, hs4⟩ : ∃ s4, wantS s3 q 3 = s4 := ⟨_, rfl⟩
  rw [hs4] at H
  have HS4 := Aside0.mk hs4
  clear hs4
  have HQ := Aside0.mk hq
  go_cut [21, 22, 23, 24, 26] (fun v21 v22 v23 v24 v26 wc => v26 = .bool (!(s4.er == 0)) ∧ Aside0 (Rdr w0 wc g b most s4) ∧ Aside0 (Below w0.heap.size w0 wc) ∧ Aside0 (KeepT w wc))
  case first =>
    clear H
    by_cases h1 : nl ≤ 286
    · have d1 : decide (nl ≤ 286) = true := decide_eq_true h1
      rw [d1, Bool.true_and] at hq
      go_wp2_with fail
      refine (rdr_want' g b most s3 q 3 s4 w0 w3 HS4.out HR3.out HB3.out).mono ?_
      rintro e w4 ⟨rfl, hR4, hB4, hK4, _⟩
      have HR4 := Aside0.mk hR4
      have HB4 := Aside0.mk hB4
      have HK4 := Aside0.mk (HK3.out.trans hK4)
      clear hR4 hB4 hK4
      (try clear hq)
      go_wp2_with fail
      go_meet
      case rel => exact ⟨rfl, HR4, HB4, HK4⟩
    · have d1 : decide (nl ≤ 286) = false := decide_eq_false h1
      rw [d1, Bool.false_and] at hq
      clear HQ
      subst hq
      go_wp2_with fail
      refine (rdr_want' g b most s3 false 3 s4 w0 w3 HS4.out HR3.out HB3.out).mono ?_
      rintro e w4 ⟨rfl, hR4, hB4, hK4, _⟩
      have HR4 := Aside0.mk hR4
      have HB4 := Aside0.mk hB4
      have HK4 := Aside0.mk (HK3.out.trans hK4)
      clear hR4 hB4 hK4
      (try clear hq)
      go_wp2_with fail
      go_meet
      case rel => exact ⟨rfl, HR4, HB4, HK4⟩
  case rest =>
    clear HR3 HB3 HK3 hq HQ HS4
    obtain ⟨rfl, HR, HB, HK⟩ := hcut
    have h := H.out
    unfold dynA at h
    by_cases h0 : s4.er = 0
    rotate_left
    · have d0 : (s4.er == 0) = false := beq_eq_false_iff_ne.2 h0
      rw [if_pos h0] at h
      injection h with h
      subst h
      simp only [d0, Bool.not_false]
      go_wp2_with fail
      ((try simp only [Exit.inBlock, Exit.then]); refine bodyPost_ret (results_none rfl _ _ _) rfl ?_)
      exact ⟨rfl, HR.out, HB.out, HK.out⟩
    have d0 : (s4.er == 0) = true := beq_iff_eq.2 h0
    rw [if_neg (by rw [h0]; simp)] at h
    obtain ⟨⟨own, s5⟩, ho, h⟩ := Option.bind_eq_some_iff.1 h
    have HOwn := Aside0.mk ho
    have H5 := Aside0.mk h
    clear h ho H h0
    simp only [d0, Bool.not_true]
    go_wp2_with fail
    refine (rdr_own g b most s4 m own s5 w0 wc HR.out HB.out HOwn.out).mono ?_
    rintro e w5 ⟨vo, rfl, hO5, hR5, hB5, hK5⟩
    obtain ⟨Ao, co, eo⟩ := Kd.R_slice hO5
    subst eo
    have HO5 := Aside0.mk hO5
    have HR5 := Aside0.mk hR5
    have HB5 := Aside0.mk hB5
    have HK5 := Aside0.mk (HK.out.trans hK5)
    clear hO5 hR5 hB5 hK5 HR HB HK d0
    obtain ⟨A0, c0, A3, c3, hg, hge, hb, hc, ho⟩ := HR5.out.cells
    have hcz5 : w5.cell? ⟨g, 5, none⟩ = some (.int .i64 s5.er) := (blk_cell hg 5).trans rfl
    clear hg hb ho hc
    have h := H5.out
    unfold dynB at h
    by_cases h0 : s5.er = 0
    rotate_left
    · have d0 : (s5.er != 0) = true := bne_iff_ne.2 h0
      rw [if_pos h0] at h
      injection h with h
      subst h
      go_wp2_with fail
      ((try simp only [Exit.inBlock, Exit.then]); refine bodyPost_ret (results_none rfl _ _ _) rfl ?_)
      exact ⟨rfl, HR5.out, HB5.out, HK5.out⟩
    have d0 : (s5.er != 0) = false := by rw [h0]; rfl
    rw [if_neg (by rw [h0]; simp)] at h
    by_cases hrb : rightB own = true
    rotate_left
    · rw [if_neg hrb] at h; cases h
    rw [if_pos hrb] at h
    obtain ⟨hl300, hx15⟩ := (rightB_iff own).1 hrb
    obtain ⟨⟨row, s6⟩, hrow, h⟩ := Option.bind_eq_some_iff.1 h
    have HRow := Aside0.mk hrow
    have H6 := Aside0.mk h
    have HX15 := Aside0.mk hx15
    clear h hrow H5 h0 hrb hx15
    go_wp2_with fail
    refine (rdr_row g b most s5 Ao co own (wrap64 (nl + nd)) N row s6 w0 w5 HR5.out HB5.out (Kd.R_reads' HO5.out).2.2 (Kd.R_reads' HO5.out).2.1 HX15.out (by omega) HRow.out).mono ?_
    rintro e w6 ⟨vr, rfl, hO6, hR6, hB6, hK6⟩
    obtain ⟨Ar, cr, er⟩ := Kd.R_slice hO6
    subst er
    have HO6 := Aside0.mk hO6
    have HR6 := Aside0.mk hR6
    have HB6 := Aside0.mk hB6
    have HK6 := Aside0.mk (HK5.out.trans hK6)
    clear hO6 hR6 hB6 hK6 HR5 HB5 HK5 HO5 d0 hcz5
    obtain ⟨A0', c0', A3', c3', hg, hge', hb, hc, ho⟩ := HR6.out.cells
    have hcz6 : w6.cell? ⟨g, 5, none⟩ = some (.int .i64 s6.er) := (blk_cell hg 5).trans rfl
    clear hg hb ho hc
    have h := H6.out
    unfold dynC at h
    by_cases h0 : s6.er = 0
    rotate_left
    · have d0 : (s6.er != 0) = true := bne_iff_ne.2 h0
      rw [if_pos h0] at h
      injection h with h
      subst h
      go_wp2_with fail
      ((try simp only [Exit.inBlock, Exit.then]); refine bodyPost_ret (results_none rfl _ _ _) rfl ?_)
      exact ⟨rfl, HR6.out, HB6.out, HK6.out⟩
    have d0 : (s6.er != 0) = false := by rw [h0]; rfl
    rw [if_neg (by rw [h0]; simp)] at h
    by_cases hn : 257 ≤ nl ∧ nl ≤ row.length ∧ row.length ≤ 1000
    rotate_left
    · rw [if_neg hn] at h; cases h
    rw [if_pos hn] at h
    obtain ⟨p, rfl⟩ : ∃ p : Nat, nl = (p : Int) := ⟨nl.toNat, by omega⟩
    rw [Int.toNat_natCast] at h
    have HH := Aside0.mk h
    have HN := Aside0.mk (show 257 ≤ p ∧ p ≤ row.length ∧ row.length ≤ 1000 from by omega)
    have hp1 : (p : Int) ≤ (row.length : Int) := by omega
    have hp0 : (0 : Int) ≤ (p : Int) := by omega
    have hcr : (row.length : Int) ≤ (cr : Int) := by have := (Kd.R_reads' HO6.out).2.1; omega
    have hcp : (p : Int) ≤ (cr : Int) := by omega
    clear h hn H6
    go_upto_region 6 with fail
    refine start_ (n := 8) (S := fun w' => True) (ds := []) #[false, false, false, false, false, false, false, false] (by kernel_rfl) rfl rfl trivial (fun hHeld => ?_)
    refine pure_ (i := 0) (N := some 46) (v := ?_) (a' := ?_) #[true, false, false, false, false, false, false, false] rfl rfl (by kernel_rfl) (fun _ _ _ h => h) (Or.inl ⟨by rfl, ?_⟩) ?_ ?_
    rotate_left
    · intro w'
      go_simp
      with_reducible rfl
    rotate_left
    · simp only [Act.put, List.setIfInBounds_toArray, List.set_cons_zero, List.set_cons_succ, i64_w, i32_w]
      rfl
    refine pure_ (i := 1) (N := some 47) (v := ?_) (a' := ?_) #[true, true, false, false, false, false, false, false] rfl rfl (by kernel_rfl) (fun _ _ _ h => h) (Or.inl ⟨by rfl, ?_⟩) ?_ ?_
    rotate_left
    · intro w'
      go_simp
      with_reducible rfl
    rotate_left
    · simp only [Act.put, List.setIfInBounds_toArray, List.set_cons_zero, List.set_cons_succ, i64_w, i32_w]
      rfl
    refine pure_ (i := 2) (N := some 48) (v := ?_) (a' := ?_) #[true, true, true, false, false, false, false, false] rfl rfl (by kernel_rfl) (fun _ _ _ h => h) (Or.inl ⟨by rfl, ?_⟩) ?_ ?_
    rotate_left
    · intro w'
      go_simp
      with_reducible rfl
    rotate_left
    · simp only [Act.put, List.setIfInBounds_toArray, List.set_cons_zero, List.set_cons_succ, i64_w, i32_w]
      rfl
    refine pure_ (i := 3) (N := some 49) (v := ?_) (a' := ?_) #[true, true, true, true, false, false, false, false] rfl rfl (by kernel_rfl) (fun _ _ _ h => h) (Or.inl ⟨by rfl, ?_⟩) ?_ ?_
    rotate_left
    · intro w'
      go_simp
      with_reducible rfl
    rotate_left
    · simp only [Act.put, List.setIfInBounds_toArray, List.set_cons_zero, List.set_cons_succ, i64_w, i32_w]
      rfl
    refine pure_ (i := 4) (N := some 50) (v := ?_) (a' := ?_) #[true, true, true, true, true, false, false, false] rfl rfl (by kernel_rfl) (fun _ _ _ h => h) (Or.inl ⟨by rfl, ?_⟩) ?_ ?_
    rotate_left
    · intro w'
      go_simp
      with_reducible rfl
    rotate_left
    · simp only [Act.put, List.setIfInBounds_toArray, List.set_cons_zero, List.set_cons_succ, i64_w, i32_w]
      rfl
    refine pure_ (i := 5) (N := some 51) (v := ?_) (a' := ?_) #[true, true, true, true, true, true, false, false] rfl rfl (by kernel_rfl) (fun _ _ _ h => h) (Or.inl ⟨by rfl, ?_⟩) ?_ ?_
    rotate_left
    · intro w'
      go_simp
      with_reducible rfl
    rotate_left
    · simp only [Act.put, List.setIfInBounds_toArray, List.set_cons_zero, List.set_cons_succ, i64_w, i32_w]
      rfl
    refine pure_ (i := 6) (N := some 7) (v := ?_) (a' := ?_) #[true, true, true, true, true, true, true, false] rfl rfl (by kernel_rfl) (fun _ _ _ h => h) (Or.inl ⟨by rfl, ?_⟩) ?_ ?_
    rotate_left
    · intro w'
      go_simp
      with_reducible rfl
    rotate_left
    · simp only [Act.put, List.setIfInBounds_toArray, List.set_cons_zero, List.set_cons_succ, i64_w, i32_w]
      rfl
    refine pure_ (i := 7) (N := some 8) (v := ?_) (a' := ?_) #[true, true, true, true, true, true, true, true] rfl rfl (by kernel_rfl) (fun _ _ _ h => h) (Or.inl ⟨by rfl, ?_⟩) ?_ ?_
    rotate_left
    · intro w'
      go_simp
      with_reducible rfl
    rotate_left
    · simp only [Act.put, List.setIfInBounds_toArray, List.set_cons_zero, List.set_cons_succ, i64_w, i32_w]
      rfl
    refine done_ (by kernel_rfl) ?_
    obtain ⟨A2, hA2⟩ : ∃ A2, A2 = (if cr = p then Ar else Option.map (fun x => x.add p) Ar) := ⟨_, rfl⟩
    obtain ⟨a, ha⟩ : ∃ a, a = row.take p := ⟨_, rfl⟩
    obtain ⟨d, hd⟩ : ∃ d, d = row.drop p := ⟨_, rfl⟩
    have HTk := Aside0.mk ha
    have hal : a.length = p := by rw [ha, List.length_take]; have := HN.out; omega
    have hdl : d.length = row.length - p := by rw [hd, List.length_drop]
    have hcap : p ≤ cr ∧ row.length - p ≤ cr - p := by have := (Kd.R_reads' HO6.out).2.1; have := HN.out; omega
    have HCS := Aside0.mk (show ∀ W' : World, Kd.R (Kd.int .i64) 3 W' w0.heap.size (fun _ => True) (.slice Ar row.length cr) row → Kd.C (Kd.int .i64) W' Ar a.length a ∧ Kd.C (Kd.int .i64) W' A2 d.length d from by
      intro W' hW
      obtain ⟨_, g1, g2⟩ := Kd.R_reads' hW
      have h1 := Kd.C_take (m := p) g2 HN.out.2.1
      have h2 := Kd.C_drop (m := p) (c := cr) g2 HN.out.2.1 g1
      rw [← ha] at h1
      rw [← hd] at h2
      refine ⟨h1, ?_⟩
      rw [hA2]
      simpa [Kd.sz, Kd.int, Kd.scalar] using h2)
    rw [← hA2]
    have HLn := Aside0.mk (show a.length = p ∧ d.length = row.length - p ∧ p ≤ cr ∧ row.length - p ≤ cr - p ∧ 257 ≤ p ∧ p ≤ 1000 from by have := HN.out; omega)
    have HH2 := HH.out
    rw [← ha, ← hd] at HH2
    have HH3 := Aside0.mk HH2
    have HR7 := Aside0.mk (HR6.out.below (Below.refl _ w6).drew)
    have HB7 := Aside0.mk HB6.out.drew
    have HK7 := Aside0.mk (HK6.out.below (Below.refl _ w6).drew)
    have HO7 := Aside0.mk (Kd.R_drew HO6.out)
    obtain ⟨ld, hld⟩ : ∃ ld, ld = row.length - p := ⟨_, rfl⟩
    obtain ⟨cd, hcd⟩ : ∃ cd, cd = cr - p := ⟨_, rfl⟩
    have HLm := Aside0.mk (show a.length = p ∧ d.length = ld ∧ p ≤ cr ∧ ld ≤ cd ∧ 257 ≤ p ∧ p ≤ 1000 ∧ ld ≤ 1000 from by have := HLn.out; have := HN.out; omega)
    rw [← hld, ← hcd]
    clear HH HH2 HR6 HB6 HK6 HO6 hcz6 ha hd hA2 d0 hcr hcp hp0 hp1 hcap hal hdl hld hcd HLn
    generalize w6.drew = w7 at HR7 HB7 HK7 HO7 ⊢
    have h := HH3.out
    obtain ⟨e1, hc1, h⟩ := Option.bind_eq_some_iff.1 h
    obtain ⟨e2, hc2, h⟩ := Option.bind_eq_some_iff.1 h
    have HC1 := Aside0.mk hc1
    have HC2 := Aside0.mk hc2
    obtain ⟨s7, hs7⟩ : ∃ s7, wantS s6 ((e1 == 0) && (e2 == 0) && decide (0 < rd a 256)) 3 = s7 := ⟨_, rfl⟩
    rw [hs7] at h
    have HS7 := Aside0.mk hs7
    have H7 := Aside0.mk h
    have H60 := Aside0.mk h0
    clear h hc1 hc2 hs7 HH3 h0
    go_upto_region 7 with fail
    go_cut [52, 53, 54, 55, 56, 57, 58, 59, 60, 61, 62, 63, 64, 65, 66, 67] (fun v52 v53 v54 v55 v56 v57 v58 v59 v60 v61 v62 v63 v64 v65 v66 v67 wc => v67 = .bool (s7.er == 0) ∧ Aside0 (Rdr w0 wc g b most s7) ∧ Aside0 (Below w0.heap.size w0 wc) ∧ Aside0 (Kd.R (Kd.int .i64) 3 wc w0.heap.size (fun _ => True) (.slice Ar row.length cr) row) ∧ Aside0 (KeepT w wc))
    case first =>
      clear H7
      have hcall := canon_Check.calls Ar cr a e1 w7 (HCS.out w7 HO7.out).1 (by have := HLm.out; omega) HC1.out
      rw [HLm.out.1] at hcall
      go_wp2_with fail
      refine hcall.mono ?_
      rintro e w8 ⟨rfl, hb⟩
      have HR8 := Aside0.mk (HR7.out.below hb)
      have HB8 := Aside0.mk (show Below w0.heap.size w0 w8 from below_then HB7.out HB7.out.size hb)
      have HO8 := Aside0.mk (Kd.R_below HO7.out hb)
      have HK8 := Aside0.mk (HK7.out.below hb)
      clear hb hcall HR7 HB7 HO7 HK7
      by_cases h1 : e1 = 0
      rotate_left
      · have d1 : (e1 == 0) = false := beq_eq_false_iff_ne.2 h1
        have HS := Aside0.mk (show wantS s6 false 3 = s7 from by have := HS7.out; rw [d1, Bool.false_and, Bool.false_and] at this; exact this)
        clear HS7
        go_wp2_with fail
        refine (rdr_want' g b most s6 false 3 s7 w0 w8 HS.out HR8.out HB8.out).mono ?_
        rintro e wz ⟨rfl, hRz, hBz, hKz, _⟩
        have HRz := Aside0.mk hRz
        have HBz := Aside0.mk hBz
        have HOz := Aside0.mk (introw_keepT HO8.out hKz)
        have HKz := Aside0.mk (HK8.out.trans hKz)
        clear hRz hBz hKz
        go_wp2_with fail
        go_meet
        case rel => exact ⟨rfl, HRz, HBz, HOz, HKz⟩
      have d1 : (e1 == 0) = true := beq_iff_eq.2 h1
      have hcall := canon_Check.calls A2 cd d e2 w8 (HCS.out w8 HO8.out).2 (by have := HLm.out; omega) HC2.out
      rw [HLm.out.2.1] at hcall
      go_wp2_with fail
      refine hcall.mono ?_
      rintro e w9 ⟨rfl, hb⟩
      have HR9 := Aside0.mk (HR8.out.below hb)
      have HB9 := Aside0.mk (show Below w0.heap.size w0 w9 from below_then HB8.out HB8.out.size hb)
      have HO9 := Aside0.mk (Kd.R_below HO8.out hb)
      have HK9 := Aside0.mk (HK8.out.below hb)
      clear hb hcall HR8 HB8 HO8 HK8
      by_cases h2 : e2 = 0
      rotate_left
      · have d2 : (e2 == 0) = false := beq_eq_false_iff_ne.2 h2
        have HS := Aside0.mk (show wantS s6 false 3 = s7 from by have := HS7.out; rw [d2, Bool.and_false, Bool.false_and] at this; exact this)
        clear HS7
        go_wp2_with fail
        refine (rdr_want' g b most s6 false 3 s7 w0 w9 HS.out HR9.out HB9.out).mono ?_
        rintro e wz ⟨rfl, hRz, hBz, hKz, _⟩
        have HRz := Aside0.mk hRz
        have HBz := Aside0.mk hBz
        have HOz := Aside0.mk (introw_keepT HO9.out hKz)
        have HKz := Aside0.mk (HK9.out.trans hKz)
        clear hRz hBz hKz
        go_wp2_with fail
        go_meet
        case rel => exact ⟨rfl, HRz, HBz, HOz, HKz⟩
      have d2 : (e2 == 0) = true := beq_iff_eq.2 h2
      have HS := Aside0.mk (show wantS s6 (decide (0 < rd a 256)) 3 = s7 from by have := HS7.out; rw [d1, d2, Bool.true_and, Bool.true_and] at this; exact this)
      obtain ⟨gr, cr2, er2, _⟩ := Kd.R_form HO9.out (by have := HN.out; omega)
      injection er2 with er2 er3 er4
      subst er2
      have hrow256 : (256 : Int) < (row.length : Int) := by have := HN.out; omega
      obtain ⟨hcell, _⟩ := Kd.R_celln (0 : Int) HO9.out (256 : Int) (by omega) hrow256
      have hrd : rdOf (0 : Int) row 256 = rd a 256 := by
        rw [HTk.out]
        show row.getD 256 0 = (row.take p).getD 256 0
        rw [List.getD_eq_getElem?_getD, List.getD_eq_getElem?_getD, List.getElem?_take_of_lt (by have := HN.out; omega)]
      rw [hrd, show (256 : Int).toNat = 256 from rfl] at hcell
      have hp256 : (256 : Int) < (p : Int) := by have := HLm.out; omega
      clear HS7 hrd er3 er4
      generalize rd a 256 = x at hcell HS
      go_wp2_with fail
      refine (rdr_want' g b most s6 (decide (0 < x)) 3 s7 w0 w9 HS.out HR9.out HB9.out).mono ?_
      rintro e wz ⟨rfl, hRz, hBz, hKz, _⟩
      have HRz := Aside0.mk hRz
      have HBz := Aside0.mk hBz
      have HOz := Aside0.mk (introw_keepT HO9.out hKz)
      have HKz := Aside0.mk (HK9.out.trans hKz)
      clear hRz hBz hKz hcell
      go_wp2_with fail
      go_meet
      case rel => exact ⟨rfl, HRz, HBz, HOz, HKz⟩
    case rest =>
      clear HR7 HB7 HO7 HK7
      obtain ⟨rfl, HR8, HB8, HO8, HK8⟩ := hcut
      have hF := H7.out
      by_cases h0 : s7.er = 0
      rotate_left
      · have d0 : (s7.er == 0) = false := beq_eq_false_iff_ne.2 h0
        rw [if_pos h0] at hF
        injection hF with hF
        subst hF
        simp only [d0]
        go_wp2_with fail
        go_end0
        exact ⟨rfl, HR8.out, HB8.out, HK8.out⟩
      have d0 : (s7.er == 0) = true := beq_iff_eq.2 h0
      rw [if_neg (by rw [h0]; simp)] at hF
      have hq : e1 = 0 ∧ e2 = 0 := by
        have h7 := HS7.out
        unfold wantS at h7
        by_cases hc : s6.er = 0 ∧ ((e1 == 0) && (e2 == 0) && decide (0 < rd a 256)) = false
        · rw [if_pos hc] at h7
          rw [← h7] at h0
          simp at h0
        · have ht : ((e1 == 0) && (e2 == 0) && decide (0 < rd a 256)) = true := by
            cases hb : ((e1 == 0) && (e2 == 0) && decide (0 < rd a 256)) with
            | true => rfl
            | false => exact absurd ⟨H60.out, hb⟩ hc
          simp only [Bool.and_eq_true, beq_iff_eq] at ht
          exact ht.1
      obtain ⟨q1, q2⟩ := hq
      subst q1 q2
      have hx1 := check_right0 HC1.out
      have hx2 := check_right0 HC2.out
      have HX1 := Aside0.mk hx1
      have HX2 := Aside0.mk hx2
      have HF := Aside0.mk hF
      have hcall := open_book Ar cr a wc (HCS.out wc HO8.out).1 (by have := HLm.out; omega) HX1.out.2 (by have := HX1.out.1; omega)
      rw [show a.length = p from HLm.out.1] at hcall
      have hla : a.length = p := HLm.out.1
      rw [hla] at HF
      clear hF h0 H7 hx1 hx2 HS7 HC1 HC2 hla
      simp only [d0]
      go_wp2_with fail
      refine hcall.mono ?_
      rintro e w9 ⟨g1, rfl, hk1, hb⟩
      have HA1 := Aside0.mk hk1
      have HR9 := Aside0.mk (HR8.out.below hb)
      have HB9 := Aside0.mk (show Below w0.heap.size w0 w9 from below_then HB8.out HB8.out.size hb)
      have HO9 := Aside0.mk (Kd.R_below HO8.out hb)
      have HK9 := Aside0.mk (HK8.out.below hb)
      clear hb hk1 hcall HR8 HB8 HO8 HK8
      have hcall := open_book A2 cd d w9 (HCS.out w9 HO9.out).2 (by have := HLm.out; omega) HX2.out.2 (by have := HX2.out.1; omega)
      rw [show d.length = ld from HLm.out.2.1] at hcall
      have hld : d.length = ld := HLm.out.2.1
      rw [hld] at HF
      clear hld
      go_wp2_with fail
      refine hcall.mono ?_
      rintro e w10 ⟨g2, rfl, hk2, hb⟩
      have HA2 := Aside0.mk hk2
      have HA1b := Aside0.mk (HA1.out.below hb)
      have HR10 := Aside0.mk (HR9.out.below hb)
      have HB10 := Aside0.mk (show Below w0.heap.size w0 w10 from below_then HB9.out HB9.out.size hb)
      have HK10 := Aside0.mk (HK9.out.below hb)
      clear hb hk2 hcall HR9 HB9 HO9 HK9 HA1
      go_wp2_with fail
      refine (rdr_coded g b most s7 _ g1 _ _ _ g2 _ _ M sr w0 w10 HR10.out HB10.out HA1b.out HA2.out HF.out).mono ?_
      rintro e w11 ⟨rfl, hR11, hB11, hK11⟩
      have HR11 := Aside0.mk hR11
      have HB11 := Aside0.mk hB11
      have HK11 := Aside0.mk (HK10.out.trans hK11)
      clear hR11 hB11 hK11
      go_wp2_with fail
      go_end0
      exact ⟨rfl, HR11.out, HB11.out, HK11.out⟩

-- PART
end Go.Proofs.Ytcjijhjdkgjgeaa.P
