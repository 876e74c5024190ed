-- Written by a program of this session out of the translation. Lean checks it.
import Derived.Test.YtcjijhjdkgjgeaaPx0
import Derived.Test.YtcjijhjdkgjgeaaPx2
namespace Go.Proofs.Ytcjijhjdkgjgeaa.P
open Go.RowKit Go.Proofs.YtcjijhjdkgjgeaaW.PrintWords Go.Proofs.YtcjijhjdkgjgeaaW.PrintLast Go.Proofs.YtcjijhjdkgjgeaaW.PrintMore
attribute [local go_sem] max2_int min2_int max_two min_two max_three min_three max_four min_four   -- for this text's walks alone
set_option linter.unusedVariables false
set_option linter.unusedSimpArgs false

-- PART
/-! ### grow_reader_piece: function 64 (by hand) -/
/-- So many bytes from so far back. -/
def copyL (most dist : Int) : Nat → RSt → Option RSt
  | 0, s => some s
  | n + 1, s => if 1 ≤ dist ∧ dist ≤ s.out.length ∧ s.out.length ≤ 1000000000 then copyL most dist n (tellS most s (rd s.out ((s.out.length : Int) - dist))) else none
def pieceH (most n dist : Int) (s : RSt) : Option RSt := if s.er ≠ 0 then some s else if 0 ≤ n ∧ n ≤ 1000000 then copyL most dist n.toNat s else none
def pieceG (most n dist : Int) (s : RSt) : Option RSt := if s.er ≠ 0 then some s else pieceH most n dist (wantS s (decide (n ≤ wrap64 (most - s.out.length))) 2)
/-- What stands behind a piece's length and its bits. -/
def pieceD (F : Nat → Int) (S : Nat → List Int) (b : List Int) (most n : Int) (s : RSt) : Option RSt :=
  (symS F S b s).bind fun r => (sym_DistOf.f 400 r.1).bind fun d =>
    if (wantS r.2 (d.2.2 == 0) 3).er ≠ 0 then some (wantS r.2 (d.2.2 == 0) 3)
    else (takeS b (wantS r.2 (d.2.2 == 0) 3) d.2.1).bind fun t => pieceG most n (wrap64 (d.1 + t.1)) (wantS t.2 (decide (wrap64 (d.1 + t.1) ≤ t.2.out.length)) 3)
def pieceS (F : Nat → Int) (S : Nat → List Int) (b : List Int) (most : Int) (s : RSt) (y : Int) : Option RSt :=
  (sym_LenOf.f 400 y).bind fun l =>
    if (wantS s (l.2.2 == 0) 3).er ≠ 0 then some (wantS s (l.2.2 == 0) 3)
    else (takeS b (wantS s (l.2.2 == 0) 3) l.2.1).bind fun t => pieceD F S b most (wrap64 (l.1 + t.1)) t.2
set_option maxHeartbeats 8000000 in
set_option maxRecDepth 100000 in
theorem rdr_piece (g : Nat) (b : List Int) (most : Int) (s : RSt) (y : Int) (base gk : Nat) (F : Nat → Int) (S : Nat → List Int) (sr : RSt) (w0 w : World) (hR : Rdr w0 w g b most s) (hB : Below w0.heap.size w0 w) (hK : BookAt w base gk F S) (h : pieceS F S b most s y = some sr) :
    Calls Try.prog 64 #[.pointer (some ⟨g, 0, none⟩), .int .i64 y, .pointer (some ⟨gk, 0, none⟩)] w fun r w' => r = .returned (.tuple #[]) ∧ Rdr w0 w' g b most sr ∧ Below w0.heap.size w0 w' ∧ KeepT w w' := by
  unfold pieceS at h
  obtain ⟨⟨l1, l2, l3⟩, ha, h⟩ := Option.bind_eq_some_iff.1 h
  have HA := Aside0.mk ha
  have H := Aside0.mk h
  have HR := Aside0.mk hR
  have HB := Aside0.mk hB
  have HKb := Aside0.mk hK
  clear ha h hR hB hK
  go_enter Try.func64, Try.ntmps64
  go_wp2_with fail
  refine (sym_LenOf.calls 400 y l1 l2 l3 w HA.out).mono ?_
  rintro e w1 ⟨rfl, hd⟩
  have HR1 := Aside0.mk (HR.out.below hd)
  have HB1 := Aside0.mk (show Below w0.heap.size w0 w1 from below_then HB.out HB.out.size hd)
  have HKb1 := Aside0.mk (HKb.out.below hd)
  have HK1 := Aside0.mk (KeepT.of_below hd)
  clear hd HR HB HKb
  go_wp2_with fail
  refine (rdr_want g b most s (l3 == 0) 3 w0 w1 HR1.out HB1.out).mono ?_
  rintro e w2 ⟨rfl, hR2, hB2, hK2⟩
  have HR2 := Aside0.mk hR2
  have HB2 := Aside0.mk hB2
  have HKb2 := Aside0.mk (HKb1.out.keepT hK2)
  have HK2 := Aside0.mk (HK1.out.trans hK2)
  clear hR2 hB2 hK2 HR1 HB1 HKb1 HK1 HA
  generalize wantS s (l3 == 0) 3 = s2 at H HR2 ⊢
  by_cases h0 : s2.er = 0
  rotate_left
  · have d0 : (s2.er == 0) = false := beq_eq_false_iff_ne.2 h0
    have h := H.out
    rw [if_pos h0] at h
    injection h with h
    subst h
    go_wp2_with fail
    ((try simp only [Exit.inBlock, Exit.then]); refine bodyPost_ret (results_none rfl _ _ _) rfl ?_)
    exact ⟨rfl, HR2.out, HB2.out, HK2.out⟩
  have d0 : (s2.er == 0) = true := beq_iff_eq.2 h0
  have h := H.out
  rw [if_neg (by rw [h0]; simp)] at h
  obtain ⟨⟨v3, s3⟩, ha, h⟩ := Option.bind_eq_some_iff.1 h
  have HT := Aside0.mk ha
  have H3 := Aside0.mk h
  clear ha h H h0
  go_wp2_with fail
  refine (rdr_take g b most s2 l2 v3 s3 w0 w2 HR2.out HB2.out HT.out).mono ?_
  rintro e w3 ⟨rfl, hR3, hB3, hK3⟩
  have HR3 := Aside0.mk hR3
  have HB3 := Aside0.mk hB3
  have HKb3 := Aside0.mk (HKb2.out.keepT hK3)
  have HK3 := Aside0.mk (HK2.out.trans hK3)
  clear hR3 hB3 hK3 HR2 HB2 HKb2 HK2 HT d0
  go_wp2_with fail
  clear h
  generalize wrap64 (l1 + v3) = n at H3 ⊢
  have h := H3.out
  unfold pieceD at h
  obtain ⟨⟨y4, s4⟩, ha, h⟩ := Option.bind_eq_some_iff.1 h
  obtain ⟨⟨d1, d2, d3⟩, hd, h⟩ := Option.bind_eq_some_iff.1 h
  have HS4 := Aside0.mk ha
  have HD4 := Aside0.mk hd
  have H4 := Aside0.mk h
  clear ha hd h H3
  refine (rdr_sym g b most s3 base gk F S y4 s4 w0 w3 HR3.out HB3.out HKb3.out HS4.out).mono ?_
  rintro e w4 ⟨rfl, hR4, hB4, hK4⟩
  have HR4 := Aside0.mk hR4
  have HB4 := Aside0.mk hB4
  have HK4 := Aside0.mk (HK3.out.trans hK4)
  clear hR4 hB4 hK4 HR3 HB3 HKb3 HK3 HS4
  go_wp2_with fail
  refine (sym_DistOf.calls 400 y4 d1 d2 d3 w4 HD4.out).mono ?_
  rintro e w5 ⟨rfl, hd⟩
  have HR5 := Aside0.mk (HR4.out.below hd)
  have HB5 := Aside0.mk (show Below w0.heap.size w0 w5 from below_then HB4.out HB4.out.size hd)
  have HK5 := Aside0.mk (HK4.out.trans (KeepT.of_below hd))
  clear hd HR4 HB4 HK4 HD4
  go_wp2_with fail
  refine (rdr_want g b most s4 (d3 == 0) 3 w0 w5 HR5.out HB5.out).mono ?_
  rintro e w6 ⟨rfl, hR6, hB6, hK6⟩
  have HR6 := Aside0.mk hR6
  have HB6 := Aside0.mk hB6
  have HK6 := Aside0.mk (HK5.out.trans hK6)
  clear hR6 hB6 hK6 HR5 HB5 HK5
  generalize wantS s4 (d3 == 0) 3 = s5 at H4 HR6 ⊢
  by_cases h0 : s5.er = 0
  rotate_left
  · have d0 : (s5.er == 0) = false := beq_eq_false_iff_ne.2 h0
    have h := H4.out
    rw [if_pos h0] at h
    injection h with h
    subst h
    go_wp2_with fail
    ((try simp only [Exit.inBlock, Exit.then]); refine bodyPost_ret (results_none rfl _ _ _) rfl ?_)
    exact ⟨rfl, HR6.out, HB6.out, HK6.out⟩
  have d0 : (s5.er == 0) = true := beq_iff_eq.2 h0
  have h := H4.out
  rw [if_neg (by rw [h0]; simp)] at h
  obtain ⟨⟨v7, s7⟩, ha, h⟩ := Option.bind_eq_some_iff.1 h
  have HT := Aside0.mk ha
  have H7 := Aside0.mk h
  clear ha h H4 h0
  go_wp2_with fail
  refine (rdr_take g b most s5 d2 v7 s7 w0 w6 HR6.out HB6.out HT.out).mono ?_
  rintro e w7 ⟨rfl, hR7, hB7, hK7⟩
  have HR7 := Aside0.mk hR7
  have HB7 := Aside0.mk hB7
  have HK7 := Aside0.mk (HK6.out.trans hK7)
  clear hR7 hB7 hK7 HR6 HB6 HK6 HT d0
  go_upto_region 6 with fail
  generalize wrap64 (d1 + v7) = dist at H7 ⊢
  obtain ⟨A0, c0, A3, c3, hg, hge, hb, hc, ho⟩ := HR7.out.cells
  have hcz3 : w7.cell? ⟨g, 3, none⟩ = some (.slice A3 s7.out.length c3) := (blk_cell hg 3).trans rfl
  have hcz2 : w7.cell? ⟨g, 2, none⟩ = some (.int .i64 most) := (blk_cell hg 2).trans rfl
  clear hg hb hc ho
  obtain ⟨s8, hs8⟩ : ∃ s8, wantS s7 (decide (dist ≤ s7.out.length)) 3 = s8 := ⟨_, rfl⟩
  have h := H7.out
  rw [hs8] at h
  have HS8 := Aside0.mk hs8
  have H8 := Aside0.mk h
  clear h hs8 H7
  by_cases h0 : s8.er = 0
  rotate_left
  · have d0 : (s8.er == 0) = false := beq_eq_false_iff_ne.2 h0
    refine start_ (n := 27) (S := fun w' => w'.cell? ⟨g, 3, none⟩ = some (.slice A3 s7.out.length c3) ∧ w'.cell? ⟨g, 2, none⟩ = some (.int .i64 most)) (ds := []) #[false, false, false, false, false, false, false, false, false, false, false, false, false, false, false, false, false, false, false, false, false, false, false, false, false, false, false] (by kernel_rfl) rfl rfl ⟨hcz3, hcz2⟩ (fun hHeld => ?_)
    refine pure_ (i := 0) (N := some 45) (v := ?_) (a' := ?_) #[true, false, false, false, false, false, false, false, false, false, false, false, false, false, false, false, false, false, false, false, false, false, false, false, false, false, false] rfl rfl (by kernel_rfl) (fun _ _ _ h => h) (Or.inl ⟨by rfl, ?_⟩) ?_ ?_
    rotate_left
    · intro w'
      go_simp
      with_reducible rfl
    rotate_left
    · simp only [Act.put, List.setIfInBounds_toArray, List.set_cons_zero, List.set_cons_succ, i64_w, i32_w]
      rfl
    refine pure_ (i := 1) (N := some 46) (v := ?_) (a' := ?_) #[true, true, false, false, false, false, false, false, false, false, false, false, false, false, false, false, false, false, false, false, false, false, false, false, false, false, false] rfl rfl (by kernel_rfl) (fun _ _ _ h => h) (Or.inl ⟨by rfl, ?_⟩) ?_ ?_
    rotate_left
    · intro w'
      go_simp
      with_reducible rfl
    rotate_left
    · simp only [Act.put, List.setIfInBounds_toArray, List.set_cons_zero, List.set_cons_succ, i64_w, i32_w]
      rfl
    refine pure_ (i := 2) (N := some 47) (v := ?_) (a' := ?_) #[true, true, true, false, false, false, false, false, false, false, false, false, false, false, false, false, false, false, false, false, false, false, false, false, false, false, false] rfl rfl (by kernel_rfl) (fun _ _ _ h => h) (Or.inl ⟨by rfl, ?_⟩) ?_ ?_
    rotate_left
    · intro w'
      go_simp
      with_reducible rfl
    rotate_left
    · simp only [Act.put, List.setIfInBounds_toArray, List.set_cons_zero, List.set_cons_succ, i64_w, i32_w]
      rfl
    refine pure_ (i := 3) (N := some 48) (v := ?_) (a' := ?_) #[true, true, true, true, false, false, false, false, false, false, false, false, false, false, false, false, false, false, false, false, false, false, false, false, false, false, false] rfl rfl (by kernel_rfl) (fun _ _ _ h => h) (Or.inl ⟨by rfl, ?_⟩) ?_ ?_
    rotate_left
    · intro w'
      go_simp
      with_reducible rfl
    rotate_left
    · simp only [Act.put, List.setIfInBounds_toArray, List.set_cons_zero, List.set_cons_succ, i64_w, i32_w]
      rfl
    refine pure_ (i := 4) (N := some 49) (v := ?_) (a' := ?_) #[true, true, true, true, true, false, false, false, false, false, false, false, false, false, false, false, false, false, false, false, false, false, false, false, false, false, false] rfl rfl (by kernel_rfl) (fun _ _ _ h => h) (Or.inl ⟨by rfl, ?_⟩) ?_ ?_
    rotate_left
    · intro w'
      go_simp
      with_reducible rfl
    rotate_left
    · simp only [Act.put, List.setIfInBounds_toArray, List.set_cons_zero, List.set_cons_succ, i64_w, i32_w]
      rfl
    refine take_ (i := 5) (N := some 50) (v := ?_) (a' := ?_) #[true, true, true, true, true, true, false, false, false, false, false, false, false, false, false, false, false, false, false, false, false, false, false, false, false, false, false] rfl rfl (by kernel_rfl) (fun _ _ _ h => h) (Or.inl ⟨by rfl, ?_⟩) hHeld ?_ ?_
    rotate_left
    · rintro w' ⟨s0, s1⟩
      go_simp
      with_reducible rfl
    rotate_left
    · simp only [Act.put, List.setIfInBounds_toArray, List.set_cons_zero, List.set_cons_succ, i64_w, i32_w]
      rfl
    refine pure_ (i := 6) (N := some 51) (v := ?_) (a' := ?_) #[true, true, true, true, true, true, true, false, false, false, false, false, false, false, false, false, false, false, false, false, false, false, false, false, false, false, false] rfl rfl (by kernel_rfl) (fun _ _ _ h => h) (Or.inl ⟨by rfl, ?_⟩) ?_ ?_
    rotate_left
    · intro w'
      go_simp
      with_reducible rfl
    rotate_left
    · simp only [Act.put, List.setIfInBounds_toArray, List.set_cons_zero, List.set_cons_succ, i64_w, i32_w]
      rfl
    refine pure_ (i := 7) (N := some 52) (v := ?_) (a' := ?_) #[true, true, true, true, true, true, true, true, false, false, false, false, false, false, false, false, false, false, false, false, false, false, false, false, false, false, false] rfl rfl (by kernel_rfl) (fun _ _ _ h => h) (Or.inl ⟨by rfl, ?_⟩) ?_ ?_
    rotate_left
    · intro w'
      go_simp
      with_reducible rfl
    rotate_left
    · simp only [Act.put, List.setIfInBounds_toArray, List.set_cons_zero, List.set_cons_succ, i64_w, i32_w]
      rfl
    refine one_ (i := 8) (N := some 53) #[true, true, true, true, true, true, true, true, true, false, false, false, false, false, false, false, false, false, false, false, false, false, false, false, false, false, false] rfl rfl (by kernel_rfl) (by decide) (fun K hK => ?_)
    refine goes_ Try.func48 (by kernel_rfl) rfl #[.pointer (some ⟨g, 0, none⟩), .bool (decide (dist ≤ s7.out.length)), .int .i64 3] (by rfl) rfl rfl (by simp only [List.map_toArray, List.map_cons, List.map_nil]; rfl) ?_
    with_reducible refine (rdr_want' g b most s7 (decide (dist ≤ s7.out.length)) 3 s8 w0 w7.drew HS8.out (HR7.out.below (Below.refl _ _).drew) HB7.out.drew).mono ?_
    rintro e w8 ⟨rfl, hR8, hB8, hK8, hq8⟩
    refine ⟨_, rfl, ?_⟩
    have hcw2 : w8.cell? ⟨g, 2, none⟩ = some (.int .i64 most) := (hq8 2 (by decide)).trans hcz2
    have hcw3 : w8.cell? ⟨g, 3, none⟩ = some (.slice A3 s7.out.length c3) := (hq8 3 (by decide)).trans hcz3
    have HR8 := Aside0.mk hR8
    have HB8 := Aside0.mk hB8
    have HK8 := Aside0.mk ((HK7.out.trans (KeepT.of_below (Below.refl _ w7).drew)).trans hK8)
    clear hR8 hB8 hK8 hq8
    refine hK.out _ _ ⟨hcw3, hcw2⟩ (fun hHeld => ?_)
    clear hK K
    refine norm_ (a' := ?_) ?_ ?_
    rotate_left
    · show Act.put _ (some 53) _ = _
      simp only [Act.put, List.setIfInBounds_toArray, List.set_cons_zero, List.set_cons_succ, i64_w, i32_w]
      rfl
    refine pure_ (i := 9) (N := some 54) (v := ?_) (a' := ?_) #[true, true, true, true, true, true, true, true, true, true, false, false, false, false, false, false, false, false, false, false, false, false, false, false, false, false, false] rfl rfl (by kernel_rfl) (fun _ _ _ h => h) (Or.inl ⟨by rfl, ?_⟩) ?_ ?_
    rotate_left
    · intro w'
      go_simp
      with_reducible rfl
    rotate_left
    · simp only [Act.put, List.setIfInBounds_toArray, List.set_cons_zero, List.set_cons_succ, i64_w, i32_w]
      rfl
    refine pure_ (i := 10) (N := some 55) (v := ?_) (a' := ?_) #[true, true, true, true, true, true, true, true, true, true, true, false, false, false, false, false, false, false, false, false, false, false, false, false, false, false, false] rfl rfl (by kernel_rfl) (fun _ _ _ h => h) (Or.inl ⟨by rfl, ?_⟩) ?_ ?_
    rotate_left
    · intro w'
      go_simp
      with_reducible rfl
    rotate_left
    · simp only [Act.put, List.setIfInBounds_toArray, List.set_cons_zero, List.set_cons_succ, i64_w, i32_w]
      rfl
    refine pure_ (i := 11) (N := some 56) (v := undef) (a' := ?_) #[true, true, true, true, true, true, true, true, true, true, true, true, false, false, false, false, false, false, false, false, false, false, false, false, false, false, false] rfl rfl (by kernel_rfl) (fun _ _ _ h => h) (Or.inr ⟨by rfl, rfl⟩) ?_ ?_
    rotate_left
    · simp only [Act.put, List.setIfInBounds_toArray, List.set_cons_zero, List.set_cons_succ, i64_w, i32_w]
      rfl
    refine pure_ (i := 12) (N := some 57) (v := undef) (a' := ?_) #[true, true, true, true, true, true, true, true, true, true, true, true, true, false, false, false, false, false, false, false, false, false, false, false, false, false, false] rfl rfl (by kernel_rfl) (fun _ _ _ h => h) (Or.inr ⟨by rfl, rfl⟩) ?_ ?_
    rotate_left
    · simp only [Act.put, List.setIfInBounds_toArray, List.set_cons_zero, List.set_cons_succ, i64_w, i32_w]
      rfl
    refine pure_ (i := 13) (N := some 58) (v := undef) (a' := ?_) #[true, true, true, true, true, true, true, true, true, true, true, true, true, true, false, false, false, false, false, false, false, false, false, false, false, false, false] rfl rfl (by kernel_rfl) (fun _ _ _ h => h) (Or.inr ⟨by rfl, rfl⟩) ?_ ?_
    rotate_left
    · simp only [Act.put, List.setIfInBounds_toArray, List.set_cons_zero, List.set_cons_succ, i64_w, i32_w]
      rfl
    refine pure_ (i := 14) (N := some 59) (v := undef) (a' := ?_) #[true, true, true, true, true, true, true, true, true, true, true, true, true, true, true, false, false, false, false, false, false, false, false, false, false, false, false] rfl rfl (by kernel_rfl) (fun _ _ _ h => h) (Or.inr ⟨by rfl, rfl⟩) ?_ ?_
    rotate_left
    · simp only [Act.put, List.setIfInBounds_toArray, List.set_cons_zero, List.set_cons_succ, i64_w, i32_w]
      rfl
    refine pure_ (i := 15) (N := some 60) (v := undef) (a' := ?_) #[true, true, true, true, true, true, true, true, true, true, true, true, true, true, true, true, false, false, false, false, false, false, false, false, false, false, false] rfl rfl (by kernel_rfl) (fun _ _ _ h => h) (Or.inr ⟨by rfl, rfl⟩) ?_ ?_
    rotate_left
    · simp only [Act.put, List.setIfInBounds_toArray, List.set_cons_zero, List.set_cons_succ, i64_w, i32_w]
      rfl
    refine pure_ (i := 16) (N := some 61) (v := undef) (a' := ?_) #[true, true, true, true, true, true, true, true, true, true, true, true, true, true, true, true, true, false, false, false, false, false, false, false, false, false, false] rfl rfl (by kernel_rfl) (fun _ _ _ h => h) (Or.inr ⟨by rfl, rfl⟩) ?_ ?_
    rotate_left
    · simp only [Act.put, List.setIfInBounds_toArray, List.set_cons_zero, List.set_cons_succ, i64_w, i32_w]
      rfl
    refine pure_ (i := 17) (N := some 62) (v := undef) (a' := ?_) #[true, true, true, true, true, true, true, true, true, true, true, true, true, true, true, true, true, true, false, false, false, false, false, false, false, false, false] rfl rfl (by kernel_rfl) (fun _ _ _ h => h) (Or.inr ⟨by rfl, rfl⟩) ?_ ?_
    rotate_left
    · simp only [Act.put, List.setIfInBounds_toArray, List.set_cons_zero, List.set_cons_succ, i64_w, i32_w]
      rfl
    refine pure_ (i := 18) (N := some 63) (v := undef) (a' := ?_) #[true, true, true, true, true, true, true, true, true, true, true, true, true, true, true, true, true, true, true, false, false, false, false, false, false, false, false] rfl rfl (by kernel_rfl) (fun _ _ _ h => h) (Or.inr ⟨by rfl, rfl⟩) ?_ ?_
    rotate_left
    · simp only [Act.put, List.setIfInBounds_toArray, List.set_cons_zero, List.set_cons_succ, i64_w, i32_w]
      rfl
    refine pure_ (i := 19) (N := some 64) (v := undef) (a' := ?_) #[true, true, true, true, true, true, true, true, true, true, true, true, true, true, true, true, true, true, true, true, false, false, false, false, false, false, false] rfl rfl (by kernel_rfl) (fun _ _ _ h => h) (Or.inr ⟨by rfl, rfl⟩) ?_ ?_
    rotate_left
    · simp only [Act.put, List.setIfInBounds_toArray, List.set_cons_zero, List.set_cons_succ, i64_w, i32_w]
      rfl
    refine pure_ (i := 20) (N := some 65) (v := undef) (a' := ?_) #[true, true, true, true, true, true, true, true, true, true, true, true, true, true, true, true, true, true, true, true, true, false, false, false, false, false, false] rfl rfl (by kernel_rfl) (fun _ _ _ h => h) (Or.inr ⟨by rfl, rfl⟩) ?_ ?_
    rotate_left
    · simp only [Act.put, List.setIfInBounds_toArray, List.set_cons_zero, List.set_cons_succ, i64_w, i32_w]
      rfl
    refine pure_ (i := 21) (N := some 66) (v := undef) (a' := ?_) #[true, true, true, true, true, true, true, true, true, true, true, true, true, true, true, true, true, true, true, true, true, true, false, false, false, false, false] rfl rfl (by kernel_rfl) (fun _ _ _ h => h) (Or.inr ⟨by rfl, rfl⟩) ?_ ?_
    rotate_left
    · simp only [Act.put, List.setIfInBounds_toArray, List.set_cons_zero, List.set_cons_succ, i64_w, i32_w]
      rfl
    refine pure_ (i := 22) (N := some 67) (v := undef) (a' := ?_) #[true, true, true, true, true, true, true, true, true, true, true, true, true, true, true, true, true, true, true, true, true, true, true, false, false, false, false] rfl rfl (by kernel_rfl) (fun _ _ _ h => h) (Or.inr ⟨by rfl, rfl⟩) ?_ ?_
    rotate_left
    · simp only [Act.put, List.setIfInBounds_toArray, List.set_cons_zero, List.set_cons_succ, i64_w, i32_w]
      rfl
    refine pure_ (i := 23) (N := some 68) (v := undef) (a' := ?_) #[true, true, true, true, true, true, true, true, true, true, true, true, true, true, true, true, true, true, true, true, true, true, true, true, false, false, false] rfl rfl (by kernel_rfl) (fun _ _ _ h => h) (Or.inr ⟨by rfl, rfl⟩) ?_ ?_
    rotate_left
    · simp only [Act.put, List.setIfInBounds_toArray, List.set_cons_zero, List.set_cons_succ, i64_w, i32_w]
      rfl
    refine pure_ (i := 24) (N := some 69) (v := undef) (a' := ?_) #[true, true, true, true, true, true, true, true, true, true, true, true, true, true, true, true, true, true, true, true, true, true, true, true, true, false, false] rfl rfl (by kernel_rfl) (fun _ _ _ h => h) (Or.inr ⟨by rfl, rfl⟩) ?_ ?_
    rotate_left
    · simp only [Act.put, List.setIfInBounds_toArray, List.set_cons_zero, List.set_cons_succ, i64_w, i32_w]
      rfl
    refine pure_ (i := 25) (N := some 70) (v := undef) (a' := ?_) #[true, true, true, true, true, true, true, true, true, true, true, true, true, true, true, true, true, true, true, true, true, true, true, true, true, true, false] rfl rfl (by kernel_rfl) (fun _ _ _ h => h) (Or.inr ⟨by rfl, rfl⟩) ?_ ?_
    rotate_left
    · simp only [Act.put, List.setIfInBounds_toArray, List.set_cons_zero, List.set_cons_succ, i64_w, i32_w]
      rfl
    refine pure_ (i := 26) (N := some 71) (v := ?_) (a' := ?_) #[true, true, true, true, true, true, true, true, true, true, true, true, true, true, true, true, true, true, true, true, true, true, true, true, true, true, true] rfl rfl (by kernel_rfl) (fun _ _ _ h => h) (Or.inl ⟨by rfl, ?_⟩) ?_ ?_
    rotate_left
    · intro w'
      go_simp
      with_reducible rfl
    rotate_left
    · simp only [Act.put, List.setIfInBounds_toArray, List.set_cons_zero, List.set_cons_succ, i64_w, i32_w]
      rfl
    refine done_ (by kernel_rfl) ?_
    all_goals
      have h := H8.out
      unfold pieceG at h
      rw [if_pos h0] at h
      injection h with h
      subst h
      go_wp2_with fail
      ((try simp only [Exit.inBlock, Exit.then]); refine bodyPost_ret (results_none rfl _ _ _) rfl ?_)
      exact ⟨rfl, HR8.out, HB8.out, HK8.out⟩
  have d0 : (s8.er == 0) = true := beq_iff_eq.2 h0
  obtain ⟨s9, hs9⟩ : ∃ s9, wantS s8 (decide (n ≤ wrap64 (most - s8.out.length))) 2 = s9 := ⟨_, rfl⟩
  have h := H8.out
  unfold pieceG at h
  rw [if_neg (by rw [h0]; simp), hs9] at h
  have HS9 := Aside0.mk hs9
  have H9 := Aside0.mk h
  clear h hs9 H8
  have e8 := (wantS_out s7 (decide (dist ≤ s7.out.length)) 3).1
  rw [HS8.out] at e8
  rw [e8] at HS9
  clear e8
  refine start_ (n := 27) (S := fun w' => w'.cell? ⟨g, 3, none⟩ = some (.slice A3 s7.out.length c3) ∧ w'.cell? ⟨g, 2, none⟩ = some (.int .i64 most)) (ds := []) #[false, false, false, false, false, false, false, false, false, false, false, false, false, false, false, false, false, false, false, false, false, false, false, false, false, false, false] (by kernel_rfl) rfl rfl ⟨hcz3, hcz2⟩ (fun hHeld => ?_)
  refine pure_ (i := 0) (N := some 45) (v := ?_) (a' := ?_) #[true, false, false, false, false, false, false, false, false, false, false, false, false, false, false, false, false, false, false, false, false, false, false, false, false, false, false] rfl rfl (by kernel_rfl) (fun _ _ _ h => h) (Or.inl ⟨by rfl, ?_⟩) ?_ ?_
  rotate_left
  · intro w'
    go_simp
    with_reducible rfl
  rotate_left
  · simp only [Act.put, List.setIfInBounds_toArray, List.set_cons_zero, List.set_cons_succ, i64_w, i32_w]
    rfl
  refine pure_ (i := 1) (N := some 46) (v := ?_) (a' := ?_) #[true, true, false, false, false, false, false, false, false, false, false, false, false, false, false, false, false, false, false, false, false, false, false, false, false, false, false] rfl rfl (by kernel_rfl) (fun _ _ _ h => h) (Or.inl ⟨by rfl, ?_⟩) ?_ ?_
  rotate_left
  · intro w'
    go_simp
    with_reducible rfl
  rotate_left
  · simp only [Act.put, List.setIfInBounds_toArray, List.set_cons_zero, List.set_cons_succ, i64_w, i32_w]
    rfl
  refine pure_ (i := 2) (N := some 47) (v := ?_) (a' := ?_) #[true, true, true, false, false, false, false, false, false, false, false, false, false, false, false, false, false, false, false, false, false, false, false, false, false, false, false] rfl rfl (by kernel_rfl) (fun _ _ _ h => h) (Or.inl ⟨by rfl, ?_⟩) ?_ ?_
  rotate_left
  · intro w'
    go_simp
    with_reducible rfl
  rotate_left
  · simp only [Act.put, List.setIfInBounds_toArray, List.set_cons_zero, List.set_cons_succ, i64_w, i32_w]
    rfl
  refine pure_ (i := 3) (N := some 48) (v := ?_) (a' := ?_) #[true, true, true, true, false, false, false, false, false, false, false, false, false, false, false, false, false, false, false, false, false, false, false, false, false, false, false] rfl rfl (by kernel_rfl) (fun _ _ _ h => h) (Or.inl ⟨by rfl, ?_⟩) ?_ ?_
  rotate_left
  · intro w'
    go_simp
    with_reducible rfl
  rotate_left
  · simp only [Act.put, List.setIfInBounds_toArray, List.set_cons_zero, List.set_cons_succ, i64_w, i32_w]
    rfl
  refine pure_ (i := 4) (N := some 49) (v := ?_) (a' := ?_) #[true, true, true, true, true, false, false, false, false, false, false, false, false, false, false, false, false, false, false, false, false, false, false, false, false, false, false] rfl rfl (by kernel_rfl) (fun _ _ _ h => h) (Or.inl ⟨by rfl, ?_⟩) ?_ ?_
  rotate_left
  · intro w'
    go_simp
    with_reducible rfl
  rotate_left
  · simp only [Act.put, List.setIfInBounds_toArray, List.set_cons_zero, List.set_cons_succ, i64_w, i32_w]
    rfl
  refine take_ (i := 5) (N := some 50) (v := ?_) (a' := ?_) #[true, true, true, true, true, true, false, false, false, false, false, false, false, false, false, false, false, false, false, false, false, false, false, false, false, false, false] rfl rfl (by kernel_rfl) (fun _ _ _ h => h) (Or.inl ⟨by rfl, ?_⟩) hHeld ?_ ?_
  rotate_left
  · rintro w' ⟨s0, s1⟩
    go_simp
    with_reducible rfl
  rotate_left
  · simp only [Act.put, List.setIfInBounds_toArray, List.set_cons_zero, List.set_cons_succ, i64_w, i32_w]
    rfl
  refine pure_ (i := 6) (N := some 51) (v := ?_) (a' := ?_) #[true, true, true, true, true, true, true, false, false, false, false, false, false, false, false, false, false, false, false, false, false, false, false, false, false, false, false] rfl rfl (by kernel_rfl) (fun _ _ _ h => h) (Or.inl ⟨by rfl, ?_⟩) ?_ ?_
  rotate_left
  · intro w'
    go_simp
    with_reducible rfl
  rotate_left
  · simp only [Act.put, List.setIfInBounds_toArray, List.set_cons_zero, List.set_cons_succ, i64_w, i32_w]
    rfl
  refine pure_ (i := 7) (N := some 52) (v := ?_) (a' := ?_) #[true, true, true, true, true, true, true, true, false, false, false, false, false, false, false, false, false, false, false, false, false, false, false, false, false, false, false] rfl rfl (by kernel_rfl) (fun _ _ _ h => h) (Or.inl ⟨by rfl, ?_⟩) ?_ ?_
  rotate_left
  · intro w'
    go_simp
    with_reducible rfl
  rotate_left
  · simp only [Act.put, List.setIfInBounds_toArray, List.set_cons_zero, List.set_cons_succ, i64_w, i32_w]
    rfl
  refine one_ (i := 8) (N := some 53) #[true, true, true, true, true, true, true, true, true, false, false, false, false, false, false, false, false, false, false, false, false, false, false, false, false, false, false] rfl rfl (by kernel_rfl) (by decide) (fun K hK => ?_)
  refine goes_ Try.func48 (by kernel_rfl) rfl #[.pointer (some ⟨g, 0, none⟩), .bool (decide (dist ≤ s7.out.length)), .int .i64 3] (by rfl) rfl rfl (by simp only [List.map_toArray, List.map_cons, List.map_nil]; rfl) ?_
  with_reducible refine (rdr_want' g b most s7 (decide (dist ≤ s7.out.length)) 3 s8 w0 w7.drew HS8.out (HR7.out.below (Below.refl _ _).drew) HB7.out.drew).mono ?_
  rintro e w8 ⟨rfl, hR8, hB8, hK8, hq8⟩
  refine ⟨_, rfl, ?_⟩
  have hcw2 : w8.cell? ⟨g, 2, none⟩ = some (.int .i64 most) := (hq8 2 (by decide)).trans hcz2
  have hcw3 : w8.cell? ⟨g, 3, none⟩ = some (.slice A3 s7.out.length c3) := (hq8 3 (by decide)).trans hcz3
  have HR8 := Aside0.mk hR8
  have HB8 := Aside0.mk hB8
  have HK8 := Aside0.mk ((HK7.out.trans (KeepT.of_below (Below.refl _ w7).drew)).trans hK8)
  clear hR8 hB8 hK8 hq8
  refine hK.out _ _ ⟨hcw3, hcw2⟩ (fun hHeld => ?_)
  clear hK K
  refine norm_ (a' := ?_) ?_ ?_
  rotate_left
  · show Act.put _ (some 53) _ = _
    simp only [Act.put, List.setIfInBounds_toArray, List.set_cons_zero, List.set_cons_succ, i64_w, i32_w]
    rfl
  refine pure_ (i := 9) (N := some 54) (v := ?_) (a' := ?_) #[true, true, true, true, true, true, true, true, true, true, false, false, false, false, false, false, false, false, false, false, false, false, false, false, false, false, false] rfl rfl (by kernel_rfl) (fun _ _ _ h => h) (Or.inl ⟨by rfl, ?_⟩) ?_ ?_
  rotate_left
  · intro w'
    go_simp
    with_reducible rfl
  rotate_left
  · simp only [Act.put, List.setIfInBounds_toArray, List.set_cons_zero, List.set_cons_succ, i64_w, i32_w]
    rfl
  refine pure_ (i := 10) (N := some 55) (v := ?_) (a' := ?_) #[true, true, true, true, true, true, true, true, true, true, true, false, false, false, false, false, false, false, false, false, false, false, false, false, false, false, false] rfl rfl (by kernel_rfl) (fun _ _ _ h => h) (Or.inl ⟨by rfl, ?_⟩) ?_ ?_
  rotate_left
  · intro w'
    go_simp
    with_reducible rfl
  rotate_left
  · simp only [Act.put, List.setIfInBounds_toArray, List.set_cons_zero, List.set_cons_succ, i64_w, i32_w]
    rfl
  refine pure_ (i := 11) (N := some 56) (v := ?_) (a' := ?_) #[true, true, true, true, true, true, true, true, true, true, true, true, false, false, false, false, false, false, false, false, false, false, false, false, false, false, false] rfl rfl (by kernel_rfl) (fun _ _ _ h => h) (Or.inl ⟨by rfl, ?_⟩) ?_ ?_
  rotate_left
  · intro w'
    go_simp
    with_reducible rfl
  rotate_left
  · simp only [Act.put, List.setIfInBounds_toArray, List.set_cons_zero, List.set_cons_succ, i64_w, i32_w]
    rfl
  refine pure_ (i := 12) (N := some 57) (v := ?_) (a' := ?_) #[true, true, true, true, true, true, true, true, true, true, true, true, true, false, false, false, false, false, false, false, false, false, false, false, false, false, false] rfl rfl (by kernel_rfl) (fun _ _ _ h => h) (Or.inl ⟨by rfl, ?_⟩) ?_ ?_
  rotate_left
  · intro w'
    go_simp
    with_reducible rfl
  rotate_left
  · simp only [Act.put, List.setIfInBounds_toArray, List.set_cons_zero, List.set_cons_succ, i64_w, i32_w]
    rfl
  refine pure_ (i := 13) (N := some 58) (v := ?_) (a' := ?_) #[true, true, true, true, true, true, true, true, true, true, true, true, true, true, false, false, false, false, false, false, false, false, false, false, false, false, false] rfl rfl (by kernel_rfl) (fun _ _ _ h => h) (Or.inl ⟨by rfl, ?_⟩) ?_ ?_
  rotate_left
  · intro w'
    go_simp
    with_reducible rfl
  rotate_left
  · simp only [Act.put, List.setIfInBounds_toArray, List.set_cons_zero, List.set_cons_succ, i64_w, i32_w]
    rfl
  refine pure_ (i := 14) (N := some 59) (v := ?_) (a' := ?_) #[true, true, true, true, true, true, true, true, true, true, true, true, true, true, true, false, false, false, false, false, false, false, false, false, false, false, false] rfl rfl (by kernel_rfl) (fun _ _ _ h => h) (Or.inl ⟨by rfl, ?_⟩) ?_ ?_
  rotate_left
  · intro w'
    go_simp
    with_reducible rfl
  rotate_left
  · simp only [Act.put, List.setIfInBounds_toArray, List.set_cons_zero, List.set_cons_succ, i64_w, i32_w]
    rfl
  refine pure_ (i := 15) (N := some 60) (v := ?_) (a' := ?_) #[true, true, true, true, true, true, true, true, true, true, true, true, true, true, true, true, false, false, false, false, false, false, false, false, false, false, false] rfl rfl (by kernel_rfl) (fun _ _ _ h => h) (Or.inl ⟨by rfl, ?_⟩) ?_ ?_
  rotate_left
  · intro w'
    go_simp
    with_reducible rfl
  rotate_left
  · simp only [Act.put, List.setIfInBounds_toArray, List.set_cons_zero, List.set_cons_succ, i64_w, i32_w]
    rfl
  refine pure_ (i := 17) (N := some 62) (v := ?_) (a' := ?_) #[true, true, true, true, true, true, true, true, true, true, true, true, true, true, true, true, false, true, false, false, false, false, false, false, false, false, false] rfl rfl (by kernel_rfl) (fun _ _ _ h => h) (Or.inl ⟨by rfl, ?_⟩) ?_ ?_
  rotate_left
  · intro w'
    go_simp
    with_reducible rfl
  rotate_left
  · simp only [Act.put, List.setIfInBounds_toArray, List.set_cons_zero, List.set_cons_succ, i64_w, i32_w]
    rfl
  refine pure_ (i := 18) (N := some 63) (v := ?_) (a' := ?_) #[true, true, true, true, true, true, true, true, true, true, true, true, true, true, true, true, false, true, true, false, false, false, false, false, false, false, false] rfl rfl (by kernel_rfl) (fun _ _ _ h => h) (Or.inl ⟨by rfl, ?_⟩) ?_ ?_
  rotate_left
  · intro w'
    go_simp
    with_reducible rfl
  rotate_left
  · simp only [Act.put, List.setIfInBounds_toArray, List.set_cons_zero, List.set_cons_succ, i64_w, i32_w]
    rfl
  refine pure_ (i := 19) (N := some 64) (v := ?_) (a' := ?_) #[true, true, true, true, true, true, true, true, true, true, true, true, true, true, true, true, false, true, true, true, false, false, false, false, false, false, false] rfl rfl (by kernel_rfl) (fun _ _ _ h => h) (Or.inl ⟨by rfl, ?_⟩) ?_ ?_
  rotate_left
  · intro w'
    go_simp
    with_reducible rfl
  rotate_left
  · simp only [Act.put, List.setIfInBounds_toArray, List.set_cons_zero, List.set_cons_succ, i64_w, i32_w]
    rfl
  refine take_ (i := 16) (N := some 61) (v := ?_) (a' := ?_) #[true, true, true, true, true, true, true, true, true, true, true, true, true, true, true, true, true, true, true, true, false, false, false, false, false, false, false] rfl rfl (by kernel_rfl) (fun _ _ _ h => h) (Or.inl ⟨by rfl, ?_⟩) hHeld ?_ ?_
  rotate_left
  · rintro w' ⟨s0, s1⟩
    go_simp
    with_reducible rfl
  rotate_left
  · simp only [Act.put, List.setIfInBounds_toArray, List.set_cons_zero, List.set_cons_succ, i64_w, i32_w]
    rfl
  refine take_ (i := 20) (N := some 65) (v := ?_) (a' := ?_) #[true, true, true, true, true, true, true, true, true, true, true, true, true, true, true, true, true, true, true, true, true, false, false, false, false, false, false] rfl rfl (by kernel_rfl) (fun _ _ _ h => h) (Or.inl ⟨by rfl, ?_⟩) hHeld ?_ ?_
  rotate_left
  · rintro w' ⟨s0, s1⟩
    go_simp
    with_reducible rfl
  rotate_left
  · simp only [Act.put, List.setIfInBounds_toArray, List.set_cons_zero, List.set_cons_succ, i64_w, i32_w]
    rfl
  refine pure_ (i := 21) (N := some 66) (v := ?_) (a' := ?_) #[true, true, true, true, true, true, true, true, true, true, true, true, true, true, true, true, true, true, true, true, true, true, false, false, false, false, false] rfl rfl (by kernel_rfl) (fun _ _ _ h => h) (Or.inl ⟨by rfl, ?_⟩) ?_ ?_
  rotate_left
  · intro w'
    go_simp
    with_reducible rfl
  rotate_left
  · simp only [Act.put, List.setIfInBounds_toArray, List.set_cons_zero, List.set_cons_succ, i64_w, i32_w]
    rfl
  refine pure_ (i := 22) (N := some 67) (v := ?_) (a' := ?_) #[true, true, true, true, true, true, true, true, true, true, true, true, true, true, true, true, true, true, true, true, true, true, true, false, false, false, false] rfl rfl (by kernel_rfl) (fun _ _ _ h => h) (Or.inl ⟨by rfl, ?_⟩) ?_ ?_
  rotate_left
  · intro w'
    go_simp
    with_reducible rfl
  rotate_left
  · simp only [Act.put, List.setIfInBounds_toArray, List.set_cons_zero, List.set_cons_succ, i64_w, i32_w]
    rfl
  refine pure_ (i := 23) (N := some 68) (v := ?_) (a' := ?_) #[true, true, true, true, true, true, true, true, true, true, true, true, true, true, true, true, true, true, true, true, true, true, true, true, false, false, false] rfl rfl (by kernel_rfl) (fun _ _ _ h => h) (Or.inl ⟨by rfl, ?_⟩) ?_ ?_
  rotate_left
  · intro w'
    go_simp
    with_reducible rfl
  rotate_left
  · simp only [Act.put, List.setIfInBounds_toArray, List.set_cons_zero, List.set_cons_succ, i64_w, i32_w]
    rfl
  refine one_ (i := 24) (N := some 69) #[true, true, true, true, true, true, true, true, true, true, true, true, true, true, true, true, true, true, true, true, true, true, true, true, true, false, false] rfl rfl (by kernel_rfl) (by decide) (fun K hK => ?_)
  refine goes_ Try.func48 (by kernel_rfl) rfl #[.pointer (some ⟨g, 0, none⟩), .bool (decide (n ≤ wrap64 (most - s7.out.length))), .int .i64 2] (by rfl) rfl rfl (by simp only [List.map_toArray, List.map_cons, List.map_nil]; rfl) ?_
  with_reducible refine (rdr_want' g b most s8 (decide (n ≤ wrap64 (most - s7.out.length))) 2 s9 w0 w8 HS9.out HR8.out HB8.out).mono ?_
  rintro e w9 ⟨rfl, hR9, hB9, hK9, hq9⟩
  refine ⟨_, rfl, ?_⟩
  have hcx2 : w9.cell? ⟨g, 2, none⟩ = some (.int .i64 most) := (hq9 2 (by decide)).trans hcw2
  have hcx3 : w9.cell? ⟨g, 3, none⟩ = some (.slice A3 s7.out.length c3) := (hq9 3 (by decide)).trans hcw3
  have HR9 := Aside0.mk hR9
  have HB9 := Aside0.mk hB9
  have HK9 := Aside0.mk (HK8.out.trans hK9)
  clear hR9 hB9 hK9 hq9
  refine hK.out _ _ ⟨hcx3, hcx2⟩ (fun hHeld => ?_)
  clear hK K
  refine norm_ (a' := ?_) ?_ ?_
  rotate_left
  · show Act.put _ (some 69) _ = _
    simp only [Act.put, List.setIfInBounds_toArray, List.set_cons_zero, List.set_cons_succ, i64_w, i32_w]
    rfl
  refine pure_ (i := 25) (N := some 70) (v := ?_) (a' := ?_) #[true, true, true, true, true, true, true, true, true, true, true, true, true, true, true, true, true, true, true, true, true, true, true, true, true, true, false] rfl rfl (by kernel_rfl) (fun _ _ _ h => h) (Or.inl ⟨by rfl, ?_⟩) ?_ ?_
  rotate_left
  · intro w'
    go_simp
    with_reducible rfl
  rotate_left
  · simp only [Act.put, List.setIfInBounds_toArray, List.set_cons_zero, List.set_cons_succ, i64_w, i32_w]
    rfl
  refine pure_ (i := 26) (N := some 71) (v := ?_) (a' := ?_) #[true, true, true, true, true, true, true, true, true, true, true, true, true, true, true, true, true, true, true, true, true, true, true, true, true, true, true] rfl rfl (by kernel_rfl) (fun _ _ _ h => h) (Or.inl ⟨by rfl, ?_⟩) ?_ ?_
  rotate_left
  · intro w'
    go_simp
    with_reducible rfl
  rotate_left
  · simp only [Act.put, List.setIfInBounds_toArray, List.set_cons_zero, List.set_cons_succ, i64_w, i32_w]
    rfl
  refine done_ (by kernel_rfl) ?_
  clear hcw2 hcw3 hcx2 hcx3 hcz2 hcz3 HR8 HB8 HK8 HR7 HB7 HK7 HS8 HS9 d0 h0
  have h := H9.out
  unfold pieceH at h
  by_cases h0 : s9.er = 0
  rotate_left
  · have d0 : (s9.er == 0) = false := beq_eq_false_iff_ne.2 h0
    have dn : (!(s9.er == 0)) = true := by rw [d0]; rfl
    rw [if_pos h0] at h
    injection h with h
    subst h
    simp only [d0, Bool.not_false]
    go_wp2_with fail
    ((try simp only [Exit.inBlock, Exit.then]); refine bodyPost_ret (results_none rfl _ _ _) rfl ?_)
    exact ⟨rfl, HR9.out, HB9.out, HK9.out⟩
  have d0 : (s9.er == 0) = true := beq_iff_eq.2 h0
  have dn : (!(s9.er == 0)) = false := by rw [d0]; rfl
  rw [if_neg (by rw [h0]; simp)] at h
  by_cases hn : 0 ≤ n ∧ n ≤ 1000000
  rotate_left
  · rw [if_neg hn] at h; cases h
  rw [if_pos hn] at h
  obtain ⟨m, rfl⟩ : ∃ m : Nat, n = (m : Int) := ⟨n.toNat, by omega⟩
  rw [Int.toNat_natCast] at h
  have hm : m ≤ 1000000 := by omega
  have HL := Aside0.mk h
  clear h hn H9 h0
  simp only [d0, Bool.not_true]
  go_wp2_with fail
  go_loopg [73] m (fun kq v73 w' => ∃ (i : Nat) (si : RSt), v73 = .int .i64 i ∧ i ≤ m ∧ Aside0 (kq + i = m) ∧ Aside0 (copyL most dist (m - i) si = some sr) ∧ Aside0 (Rdr w0 w' g b most si) ∧ Aside0 (Below w0.heap.size w0 w') ∧ Aside0 (KeepT w w'))
  case atStart => exact ⟨0, s9, rfl, Nat.zero_le _, ⟨rfl⟩, HL, HR9, HB9, HK9⟩
  case round =>
    clear HL HR9 HB9 HK9
    obtain ⟨i, si, rfl, hi, HG, HL, HR, HB, HK⟩ := hrel
    by_cases hlt : i < m
    · have h := HL.out
      rw [show m - i = (m - i - 1) + 1 from by omega] at h
      unfold copyL at h
      by_cases hd : 1 ≤ dist ∧ dist ≤ si.out.length ∧ si.out.length ≤ 1000000000
      · rw [if_pos hd] at h
        obtain ⟨dd, rfl⟩ : ∃ dd : Nat, dist = (dd : Int) := ⟨dist.toNat, by omega⟩
        obtain ⟨k, hk⟩ : ∃ k, k = si.out.length - dd := ⟨_, rfl⟩
        have hkl : k < si.out.length := by omega
        have hke : (si.out.length : Int) - (dd : Int) = (k : Int) := by omega
        rw [hke] at h
        have HOL := Aside0.mk hd.2.2
        obtain ⟨A0, c0, A3, c3, hg, hge, hb, hc, ho⟩ := HR.out.cells
        obtain ⟨ad, e3, hcell⟩ := Kd.at_int (Kd.R_reads' ho).2.2 (k : Int) (by omega) (by omega)
        subst e3
        rw [Int.toNat_natCast] at hcell
        have hcz3 : wr.cell? ⟨g, 3, none⟩ = some (.slice (some ad) si.out.length c3) := (blk_cell hg 3).trans rfl
        have hw1 : IntKind.i64.wrap ((si.out.length : Int) - (dd : Int)) = (k : Int) := by rw [hke]; exact IntWalk.i64_in (k : Int) (by omega)
        have hw2 : wrap64 ((si.out.length : Int) - (dd : Int)) = (k : Int) := by rw [hke]; unfold wrap64; omega
        have hk0 : (0 : Int) ≤ (k : Int) := by omega
        have hk1 : (k : Int) < (si.out.length : Int) := by omega
        have hk2 : ((k : Int)).toNat = k := Int.toNat_natCast k
        have HL2 := Aside0.mk h
        clear hg hb hc ho h HL hke hk hd
        generalize rd si.out (k : Int) = x at hcell HL2
        go_upto_region 9 with fail
        refine start_ (n := 15) (S := fun w' => w'.cell? ⟨g, 3, none⟩ = some (.slice (some ad) si.out.length c3) ∧ w'.cell? (ad.add k) = some (.int .u8 x)) (ds := [14]) #[false, false, false, false, false, false, false, false, false, false, false, false, false, false, false] (by kernel_rfl) rfl rfl ⟨hcz3, hcell⟩ (fun hHeld => ?_)
        refine pure_ (i := 0) (N := some 75) (v := ?_) (a' := ?_) #[true, false, false, false, false, false, false, false, false, false, false, false, false, false, false] rfl rfl (by kernel_rfl) (fun _ _ _ h => h) (Or.inl ⟨by rfl, ?_⟩) ?_ ?_
        rotate_left
        · intro w'
          go_simp
          with_reducible rfl
        rotate_left
        · simp only [Act.put, List.setIfInBounds_toArray, List.set_cons_zero, List.set_cons_succ, i64_w, i32_w]
          rfl
        refine pure_ (i := 1) (N := some 76) (v := ?_) (a' := ?_) #[true, true, false, false, false, false, false, false, false, false, false, false, false, false, false] rfl rfl (by kernel_rfl) (fun _ _ _ h => h) (Or.inl ⟨by rfl, ?_⟩) ?_ ?_
        rotate_left
        · intro w'
          go_simp
          with_reducible rfl
        rotate_left
        · simp only [Act.put, List.setIfInBounds_toArray, List.set_cons_zero, List.set_cons_succ, i64_w, i32_w]
          rfl
        refine pure_ (i := 2) (N := some 77) (v := ?_) (a' := ?_) #[true, true, true, false, false, false, false, false, false, false, false, false, false, false, false] rfl rfl (by kernel_rfl) (fun _ _ _ h => h) (Or.inl ⟨by rfl, ?_⟩) ?_ ?_
        rotate_left
        · intro w'
          go_simp
          with_reducible rfl
        rotate_left
        · simp only [Act.put, List.setIfInBounds_toArray, List.set_cons_zero, List.set_cons_succ, i64_w, i32_w]
          rfl
        refine pure_ (i := 3) (N := some 78) (v := ?_) (a' := ?_) #[true, true, true, true, false, false, false, false, false, false, false, false, false, false, false] rfl rfl (by kernel_rfl) (fun _ _ _ h => h) (Or.inl ⟨by rfl, ?_⟩) ?_ ?_
        rotate_left
        · intro w'
          go_simp
          with_reducible rfl
        rotate_left
        · simp only [Act.put, List.setIfInBounds_toArray, List.set_cons_zero, List.set_cons_succ, i64_w, i32_w]
          rfl
        refine pure_ (i := 5) (N := some 80) (v := ?_) (a' := ?_) #[true, true, true, true, false, true, false, false, false, false, false, false, false, false, false] rfl rfl (by kernel_rfl) (fun _ _ _ h => h) (Or.inl ⟨by rfl, ?_⟩) ?_ ?_
        rotate_left
        · intro w'
          go_simp
          with_reducible rfl
        rotate_left
        · simp only [Act.put, List.setIfInBounds_toArray, List.set_cons_zero, List.set_cons_succ, i64_w, i32_w]
          rfl
        refine pure_ (i := 6) (N := some 81) (v := ?_) (a' := ?_) #[true, true, true, true, false, true, true, false, false, false, false, false, false, false, false] rfl rfl (by kernel_rfl) (fun _ _ _ h => h) (Or.inl ⟨by rfl, ?_⟩) ?_ ?_
        rotate_left
        · intro w'
          go_simp
          with_reducible rfl
        rotate_left
        · simp only [Act.put, List.setIfInBounds_toArray, List.set_cons_zero, List.set_cons_succ, i64_w, i32_w]
          rfl
        refine pure_ (i := 7) (N := some 82) (v := ?_) (a' := ?_) #[true, true, true, true, false, true, true, true, false, false, false, false, false, false, false] rfl rfl (by kernel_rfl) (fun _ _ _ h => h) (Or.inl ⟨by rfl, ?_⟩) ?_ ?_
        rotate_left
        · intro w'
          go_simp
          with_reducible rfl
        rotate_left
        · simp only [Act.put, List.setIfInBounds_toArray, List.set_cons_zero, List.set_cons_succ, i64_w, i32_w]
          rfl
        refine pure_ (i := 10) (N := some 85) (v := ?_) (a' := ?_) #[true, true, true, true, false, true, true, true, false, false, true, false, false, false, false] rfl rfl (by kernel_rfl) (fun _ _ _ h => h) (Or.inl ⟨by rfl, ?_⟩) ?_ ?_
        rotate_left
        · intro w'
          go_simp
          with_reducible rfl
        rotate_left
        · simp only [Act.put, List.setIfInBounds_toArray, List.set_cons_zero, List.set_cons_succ, i64_w, i32_w]
          rfl
        refine take_ (i := 4) (N := some 79) (v := ?_) (a' := ?_) #[true, true, true, true, true, true, true, true, false, false, true, false, false, false, false] rfl rfl (by kernel_rfl) (fun _ _ _ h => h) (Or.inl ⟨by rfl, ?_⟩) hHeld ?_ ?_
        rotate_left
        · rintro w' ⟨s0, s1⟩
          go_simp
          with_reducible rfl
        rotate_left
        · simp only [Act.put, List.setIfInBounds_toArray, List.set_cons_zero, List.set_cons_succ, i64_w, i32_w]
          rfl
        refine take_ (i := 8) (N := some 83) (v := ?_) (a' := ?_) #[true, true, true, true, true, true, true, true, true, false, true, false, false, false, false] rfl rfl (by kernel_rfl) (fun _ _ _ h => h) (Or.inl ⟨by rfl, ?_⟩) hHeld ?_ ?_
        rotate_left
        · rintro w' ⟨s0, s1⟩
          go_simp
          with_reducible rfl
        rotate_left
        · simp only [Act.put, List.setIfInBounds_toArray, List.set_cons_zero, List.set_cons_succ, i64_w, i32_w]
          rfl
        refine pure_ (i := 9) (N := some 84) (v := ?_) (a' := ?_) #[true, true, true, true, true, true, true, true, true, true, true, false, false, false, false] rfl rfl (by kernel_rfl) (fun _ _ _ h => h) (Or.inl ⟨by rfl, ?_⟩) ?_ ?_
        rotate_left
        · intro w'
          go_simp
          with_reducible rfl
        rotate_left
        · simp only [Act.put, List.setIfInBounds_toArray, List.set_cons_zero, List.set_cons_succ, i64_w, i32_w]
          rfl
        refine pure_ (i := 11) (N := some 86) (v := ?_) (a' := ?_) #[true, true, true, true, true, true, true, true, true, true, true, true, false, false, false] rfl rfl (by kernel_rfl) (fun _ _ _ h => h) (Or.inl ⟨by rfl, ?_⟩) ?_ ?_
        rotate_left
        · intro w'
          go_simp
          with_reducible rfl
        rotate_left
        · simp only [Act.put, List.setIfInBounds_toArray, List.set_cons_zero, List.set_cons_succ, i64_w, i32_w]
          rfl
        refine pure_ (i := 12) (N := some 87) (v := ?_) (a' := ?_) #[true, true, true, true, true, true, true, true, true, true, true, true, true, false, false] rfl rfl (by kernel_rfl) (fun _ _ _ h => h) (Or.inl ⟨by rfl, ?_⟩) ?_ ?_
        rotate_left
        · intro w'
          go_simp
          with_reducible rfl
        rotate_left
        · simp only [Act.put, List.setIfInBounds_toArray, List.set_cons_zero, List.set_cons_succ, i64_w, i32_w]
          rfl
        refine take_ (i := 13) (N := some 88) (v := ?_) (a' := ?_) #[true, true, true, true, true, true, true, true, true, true, true, true, true, true, false] rfl rfl (by kernel_rfl) (fun _ _ _ h => h) (Or.inl ⟨by rfl, ?_⟩) hHeld ?_ ?_
        rotate_left
        · rintro w' ⟨s0, s1⟩
          go_simp
          with_reducible rfl
        rotate_left
        · simp only [Act.put, List.setIfInBounds_toArray, List.set_cons_zero, List.set_cons_succ, i64_w, i32_w]
          rfl
        refine last_ (i := 14) (N := some 89) #[true, true, true, true, true, true, true, true, true, true, true, true, true, true, true] rfl rfl (by kernel_rfl) (by decide) (fun K hK => ?_)
        refine goes_ Try.func62 (by kernel_rfl) rfl #[.pointer (some ⟨g, 0, none⟩), .int .u8 x] (by rfl) rfl rfl (by simp only [List.map_toArray, List.map_cons, List.map_nil]; rfl) ?_
        with_reducible refine (rdr_tell g b most si x w0 wr.drew (HR.out.below (Below.refl _ _).drew) HB.out.drew HOL.out).mono ?_
        rintro e w10 ⟨rfl, hR10, hB10, hK10⟩
        refine ⟨_, rfl, ?_⟩
        have HR10 := Aside0.mk hR10
        have HB10 := Aside0.mk hB10
        have HK10 := Aside0.mk ((HK.out.trans (KeepT.of_below (Below.refl _ wr).drew)).trans hK10)
        clear hR10 hB10 hK10
        refine hK.out _ _ ?_
        clear hK K
        refine norm_ (a' := ?_) ?_ ?_
        rotate_left
        · show Act.put _ (some 89) _ = _
          simp only [Act.put, List.setIfInBounds_toArray, List.set_cons_zero, List.set_cons_succ, i64_w, i32_w]
          rfl
        refine done_ (by kernel_rfl) ?_
        clear hw1 hw2 hk0 hk1 hk2
        go_wp2_with fail
        go_roundg (gk - 1)
        case measure => have := HG.out; omega
        case rel => exact ⟨i + 1, _, by go_num, by omega, ⟨by have := HG.out; omega⟩, ⟨by rw [show m - (i + 1) = m - i - 1 from by omega]; exact HL2.out⟩, HR10, HB10, HK10⟩
      · rw [if_neg hd] at h; cases h
    · have hi2 : i = m := by omega
      subst hi2
      go_wp2_with fail
      go_end0
      have h := HL.out
      rw [Nat.sub_self] at h
      unfold copyL at h
      injection h with h
      subst h
      exact ⟨rfl, HR.out, HB.out, HK.out⟩

-- PART
end Go.Proofs.Ytcjijhjdkgjgeaa.P
namespace Go.Proofs.Ytcjijhjdkgjgeaa.P
open Go.RowKit Go.Proofs.YtcjijhjdkgjgeaaW.PrintWords Go.Proofs.YtcjijhjdkgjgeaaW.PrintLast Go.Proofs.YtcjijhjdkgjgeaaW.PrintMore
attribute [local go_sem] max2_int min2_int max_two min_two max_three min_three max_four min_four   -- for this text's walks alone
set_option linter.unusedVariables false
set_option linter.unusedSimpArgs false

-- PART
/-! ### grow_reader_coded: function 45 (by hand) -/
/-- A block of codes: up to its end, or to an error; none if so many rounds don't do. -/
def codedL (F1 : Nat → Int) (S1 : Nat → List Int) (F2 : Nat → Int) (S2 : Nat → List Int) (b : List Int) (most : Int) : Nat → RSt → Option RSt
  | 0, _ => none
  | n + 1, s => if s.er ≠ 0 then some s else (symS F1 S1 b s).bind fun r =>
      if r.2.er ≠ 0 ∨ r.1 = 256 then some r.2
      else if r.1 < 256 then (if r.2.out.length ≤ 1000000000 then codedL F1 S1 F2 S2 b most n (tellS most r.2 (r.1 % 256)) else none)
      else (pieceS F2 S2 b most r.2 r.1).bind (codedL F1 S1 F2 S2 b most n)
set_option maxHeartbeats 8000000 in
set_option maxRecDepth 100000 in
theorem rdr_coded (g : Nat) (b : List Int) (most : Int) (s : RSt) (base1 g1 : Nat) (F1 : Nat → Int) (S1 : Nat → List Int) (base2 g2 : Nat) (F2 : Nat → Int) (S2 : Nat → List Int) (N : Nat) (sr : RSt) (w0 w : World) (hR : Rdr w0 w g b most s) (hB : Below w0.heap.size w0 w) (hK1 : BookAt w base1 g1 F1 S1) (hK2 : BookAt w base2 g2 F2 S2) (h : codedL F1 S1 F2 S2 b most N s = some sr) :
    Calls Try.prog 45 #[.pointer (some ⟨g, 0, none⟩), .pointer (some ⟨g1, 0, none⟩), .pointer (some ⟨g2, 0, none⟩)] w fun r w' => r = .returned (.tuple #[]) ∧ Rdr w0 w' g b most sr ∧ Below w0.heap.size w0 w' ∧ KeepT w w' := by
  have H := Aside0.mk h
  have HR := Aside0.mk hR
  have HB := Aside0.mk hB
  have HA := Aside0.mk hK1
  have HC := Aside0.mk hK2
  clear h hR hB hK1 hK2
  go_enter Try.func45, Try.ntmps45
  go_wp2_with fail
  go_loopg [] N (fun kq w' => ∃ (si : RSt), Aside0 (codedL F1 S1 F2 S2 b most kq si = some sr) ∧ Aside0 (Rdr w0 w' g b most si) ∧ Aside0 (Below w0.heap.size w0 w') ∧ Aside0 (KeepT w w'))
  case atStart => exact ⟨s, H, HR, HB, ⟨KeepT.refl _⟩⟩
  case round =>
    clear H HR HB
    obtain ⟨si, HL, HR, HB, HK⟩ := hrel
    have h := HL.out
    match gk, h with
    | 0, h => unfold codedL at h; cases h
    | n + 1, h =>
      unfold codedL at h
      obtain ⟨A0, c0, A3, c3, hg, hge, hb, hc, ho⟩ := HR.out.cells
      have hcz5 : wr.cell? ⟨g, 5, none⟩ = some (.int .i64 si.er) := (blk_cell hg 5).trans rfl
      clear hg hb ho hc
      by_cases he : si.er = 0
      rotate_left
      · have d1 : (si.er == 0) = false := beq_eq_false_iff_ne.2 he
        rw [if_pos he] at h
        injection h with h
        subst h
        go_wp2_with fail
        go_end0
        exact ⟨rfl, HR.out, HB.out, HK.out⟩
      have d1 : (si.er == 0) = true := beq_iff_eq.2 he
      rw [if_neg (by rw [he]; simp)] at h
      obtain ⟨⟨y, s1⟩, hs, h⟩ := Option.bind_eq_some_iff.1 h
      have HS := Aside0.mk hs
      have H1 := Aside0.mk h
      clear hs h HL
      go_wp2_with fail
      refine (rdr_sym g b most si base1 g1 F1 S1 y s1 w0 wr HR.out HB.out (HA.out.keepT HK.out) HS.out).mono ?_
      rintro e w1 ⟨rfl, hR1, hB1, hK1⟩
      have HR1 := Aside0.mk hR1
      have HB1 := Aside0.mk hB1
      have HK1 := Aside0.mk (HK.out.trans hK1)
      clear hR1 hB1 hK1 HR HB HK hcz5
      obtain ⟨A1, c1, A4, c4, hg, hge1, hb, hc, ho⟩ := HR1.out.cells
      have hcz6 : w1.cell? ⟨g, 5, none⟩ = some (.int .i64 s1.er) := (blk_cell hg 5).trans rfl
      clear hg hb ho hc
      have h := H1.out
      by_cases he1 : s1.er = 0
      rotate_left
      · have d2 : (s1.er != 0) = true := bne_iff_ne.2 he1
        rw [if_pos (Or.inl he1)] at h
        injection h with h
        subst h
        go_wp2_with fail
        ((try simp only [Exit.inBlock, Exit.then]); refine bodyPost_ret (results_none rfl _ _ _) rfl ?_)
        exact ⟨rfl, HR1.out, HB1.out, HK1.out⟩
      have d2 : (s1.er != 0) = false := by rw [he1]; rfl
      by_cases hy : y = 256
      · have d3 : (y == 256) = true := beq_iff_eq.2 hy
        rw [if_pos (Or.inr hy)] at h
        injection h with h
        subst h
        go_wp2_with fail
        ((try simp only [Exit.inBlock, Exit.then]); refine bodyPost_ret (results_none rfl _ _ _) rfl ?_)
        exact ⟨rfl, HR1.out, HB1.out, HK1.out⟩
      have d3 : (y == 256) = false := beq_eq_false_iff_ne.2 hy
      rw [if_neg (fun hh => hh.elim (fun h => h he1) hy)] at h
      by_cases hlt : y < 256
      · have d4 : decide (y < 256) = true := decide_eq_true hlt
        rw [if_pos hlt] at h
        by_cases hol : s1.out.length ≤ 1000000000
        rotate_left
        · rw [if_neg hol] at h; cases h
        rw [if_pos hol] at h
        have HL2 := Aside0.mk h
        have HO5 := Aside0.mk hol
        clear h hol H1 hy hlt he1
        go_wp2_with fail
        refine (rdr_tell g b most s1 (y % 256) w0 w1 HR1.out HB1.out HO5.out).mono ?_
        rintro e w6 ⟨rfl, hR6, hB6, hK6⟩
        have HR6 := Aside0.mk hR6
        have HB6 := Aside0.mk hB6
        have HK6 := Aside0.mk (HK1.out.trans hK6)
        clear hR6 hB6 hK6 HR1 HB1 HK1 hcz6
        go_wp2_with fail
        go_roundg n
        case measure => omega
        case rel => exact ⟨_, HL2, HR6, HB6, HK6⟩
      · have d4 : decide (y < 256) = false := decide_eq_false hlt
        rw [if_neg hlt] at h
        obtain ⟨s2, hp, h⟩ := Option.bind_eq_some_iff.1 h
        have HP := Aside0.mk hp
        have HL2 := Aside0.mk h
        clear h hp H1 hy hlt he1
        go_wp2_with fail
        refine (rdr_piece g b most s1 y base2 g2 F2 S2 s2 w0 w1 HR1.out HB1.out (HC.out.keepT HK1.out) HP.out).mono ?_
        rintro e w6 ⟨rfl, hR6, hB6, hK6⟩
        have HR6 := Aside0.mk hR6
        have HB6 := Aside0.mk hB6
        have HK6 := Aside0.mk (HK1.out.trans hK6)
        clear hR6 hB6 hK6 HR1 HB1 HK1 hcz6
        go_wp2_with fail
        go_roundg n
        case measure => omega
        case rel => exact ⟨_, HL2, HR6, HB6, HK6⟩

-- PART
end Go.Proofs.Ytcjijhjdkgjgeaa.P
namespace Go.Proofs.Ytcjijhjdkgjgeaa.P
open Go.RowKit Go.Proofs.YtcjijhjdkgjgeaaW.PrintWords Go.Proofs.YtcjijhjdkgjgeaaW.PrintLast Go.Proofs.YtcjijhjdkgjgeaaW.PrintMore
attribute [local go_sem] max2_int min2_int max_two min_two max_three min_three max_four min_four   -- for this text's walks alone
set_option linter.unusedVariables false
set_option linter.unusedSimpArgs false

/-! ### canon_right: function 72 -/
def canon_right.l0 : Nat → List Int → Int → Int → Option (Bool)
  | 0, _, _, _ => none
  | k + 1, x8, x9, x10 => if x10 < x9 then (if 0 ≤ x10 then (if x10 < (x8.length : Int) then (if (rd x8 x10) < 0 then (some false) else (if (rd x8 x10) > 15 then (some false) else (canon_right.l0 k x8 x9 (wrap64 (x10 + 1))))) else (none)) else (none)) else (some true)
def canon_right.f (k : Nat) (l0 : List Int) : Option (Bool) := if (l0.length : Int) > 300 then (some false) else (canon_right.l0 k l0 (l0.length : Int) 0)
theorem canon_right.mono_l : ∀ k, (∀ y0 y1 y2, LeO (canon_right.l0 k y0 y1 y2) (canon_right.l0 (k + 1) y0 y1 y2))
  | 0 => fun _ _ _ r h => by simp [canon_right.l0] at h
  | k + 1 => by
    have ih0 := canon_right.mono_l k
    · intro y0 y1 y2
      unfold canon_right.l0
      repeat' first
      | (with_reducible exact ih0 _ _ _)
      | (with_reducible exact LeO.refl _)
      | (with_reducible exact LeO.none _)
      | (with_reducible refine LeO.ite ?_ ?_)
      | (with_reducible refine LeO.bind ?_ (fun _ => ?_))
      | exact ih0 _ _ _
      | exact LeO.none _
      | refine LeO.ite ?_ ?_
      | refine LeO.bind ?_ (fun _ => ?_)
theorem canon_right.mono : ∀ a0 k, LeO (canon_right.f k a0) (canon_right.f (k + 1) a0) := by
  intro a0 k
  have ih0 := canon_right.mono_l k
  unfold canon_right.f
  repeat' first
      | (with_reducible exact ih0 _ _ _)
      | (with_reducible exact LeO.refl _)
      | (with_reducible exact LeO.none _)
      | (with_reducible refine LeO.ite ?_ ?_)
      | (with_reducible refine LeO.bind ?_ (fun _ => ?_))
      | exact ih0 _ _ _
      | exact LeO.none _
      | refine LeO.ite ?_ ?_
      | refine LeO.bind ?_ (fun _ => ?_)
set_option maxHeartbeats 8000000 in
set_option maxRecDepth 100000 in
theorem canon_right.calls (k : Nat) (A0 : Option Addr) (c0 : Nat) (l0 : List Int) (r : Bool) (w : World) (hr0 : Kd.C (Kd.int .i64) w A0 l0.length l0) (hc0 : l0.length ≤ c0) (h : canon_right.f k l0 = some r) :
    Calls Try.prog 72 #[.slice A0 l0.length c0] w fun e w' => e = .returned (.bool r) ∧ Drawn0 w w' := by
  have HR0 := Aside0.mk hr0
  have HC0 := Aside0.mk hc0
  clear hr0 hc0
  have H : (if (l0.length : Int) > 300 then (some false) else (canon_right.l0 k l0 (l0.length : Int) 0)) = some r := h
  clear h
  by_cases c2 : (l0.length : Int) > 300
  · rw [if_pos c2] at H
    have c2b0 : decide (300 < (l0.length : Int)) = true := decide_eq_true c2
    have c2b1 : decide (300 < l0.length) = true := decide_eq_true (by omega)
    clear c2
    obtain rfl := Option.some.inj H
    go_enter Try.func72, Try.ntmps72
    go_wp2
    go_ret
    exact ⟨by first | rfl | (simp; done) | (simp [*]; done), by repeat (first | exact Drawn0.refl _ | apply Drawn0.step)⟩
  · rw [if_neg c2] at H
    have c2b0 : decide (300 < (l0.length : Int)) = false := decide_eq_false c2
    have c2b1 : decide (300 < l0.length) = false := decide_eq_false (by omega)
    clear c2
    have H' := Aside0.mk H
    clear H
    go_enter Try.func72, Try.ntmps72
    go_wp2
    go_loopg [10] k (fun kq v10 w' => ∃ (x10_1 : Int), v10 = .int .i64 x10_1 ∧ Aside0 (canon_right.l0 kq l0 (l0.length : Int) x10_1 = some r) ∧ Aside0 (kq ≤ k) ∧ Drawn0 w w')
    case atStart => exact ⟨(0), (by first | rfl | (simp; done) | (simp [*]; done)), H', ⟨Nat.le_refl _⟩, by repeat (first | exact Drawn0.refl _ | apply Drawn0.step)⟩
    case round =>
      clear H'
      try clear c2
      try clear c2b0
      try clear c2b1
      try clear p2
      obtain ⟨x10_1, rfl, HA, HK1, ⟨m1, rfl⟩⟩ := hrel
      cases gk with
      | zero => exact absurd HA.out (by simp [canon_right.l0])
      | succ k1 =>
        have H := HA.out
        clear HA
        simp only [canon_right.l0] at H
        by_cases c3 : x10_1 < (l0.length : Int)
        · rw [if_pos c3] at H
          have c3b0 : decide (x10_1 < (l0.length : Int)) = true := decide_eq_true c3
          clear c3
          by_cases c4 : 0 ≤ x10_1
          · rw [if_pos c4] at H
            have c4b0 : decide (0 ≤ x10_1) = true := decide_eq_true c4
            clear c4
            by_cases c5 : x10_1 < (l0.length : Int)
            · rw [if_pos c5] at H
              have c5b0 : decide (x10_1 < (l0.length : Int)) = true := decide_eq_true c5
              clear c5
              by_cases c6 : (rd l0 x10_1) < 0
              · rw [if_pos c6] at H
                have c6b0 : decide ((rd l0 x10_1) < 0) = true := decide_eq_true c6
                clear c6
                obtain rfl := Option.some.inj H
                have p128 : 0 ≤ (x10_1 : Int) := of_decide_eq_true (by first | (with_reducible assumption) | assumption)
                have q128 : x10_1 < (l0.length : Int) := of_decide_eq_true (by first | (with_reducible assumption) | assumption)
                obtain ⟨ad128, e128, hx128_0⟩ := Kd.at_int HR0.out x10_1 p128 q128
                cases e128
                replace p128 := eq_true p128
                replace q128 := eq_true q128
                go_wp2
                go_ret
                exact ⟨by first | rfl | (simp; done) | (simp [*]; done), by repeat (first | exact Drawn0.refl _ | apply Drawn0.step)⟩
              · rw [if_neg c6] at H
                have c6b0 : decide ((rd l0 x10_1) < 0) = false := decide_eq_false c6
                clear c6
                by_cases c7 : (rd l0 x10_1) > 15
                · rw [if_pos c7] at H
                  have c7b0 : decide (15 < (rd l0 x10_1)) = true := decide_eq_true c7
                  clear c7
                  obtain rfl := Option.some.inj H
                  have p128 : 0 ≤ (x10_1 : Int) := of_decide_eq_true (by first | (with_reducible assumption) | assumption)
                  have q128 : x10_1 < (l0.length : Int) := of_decide_eq_true (by first | (with_reducible assumption) | assumption)
                  obtain ⟨ad128, e128, hx128_0⟩ := Kd.at_int HR0.out x10_1 p128 q128
                  cases e128
                  replace p128 := eq_true p128
                  replace q128 := eq_true q128
                  go_wp2
                  go_ret
                  exact ⟨by first | rfl | (simp; done) | (simp [*]; done), by repeat (first | exact Drawn0.refl _ | apply Drawn0.step)⟩
                · rw [if_neg c7] at H
                  have c7b0 : decide (15 < (rd l0 x10_1)) = false := decide_eq_false c7
                  clear c7
                  have H' := Aside0.mk H
                  clear H
                  have p128 : 0 ≤ (x10_1 : Int) := of_decide_eq_true (by first | (with_reducible assumption) | assumption)
                  have q128 : x10_1 < (l0.length : Int) := of_decide_eq_true (by first | (with_reducible assumption) | assumption)
                  obtain ⟨ad128, e128, hx128_0⟩ := Kd.at_int HR0.out x10_1 p128 q128
                  cases e128
                  replace p128 := eq_true p128
                  replace q128 := eq_true q128
                  go_wp2
                  go_roundg k1
                  case measure => have := HK1.out; omega
                  case rel => exact ⟨(wrap64 (x10_1 + 1)), (by first | rfl | (simp; done) | (simp [*]; done)), H', ⟨by have := HK1.out; omega⟩, by repeat (first | exact Drawn0.refl _ | apply Drawn0.step)⟩
            · rw [if_neg c5] at H
              exact absurd H (by simp)
          · rw [if_neg c4] at H
            exact absurd H (by simp)
        · rw [if_neg c3] at H
          have c3b0 : decide (x10_1 < (l0.length : Int)) = false := decide_eq_false c3
          clear c3
          obtain rfl := Option.some.inj H
          go_wp2
          go_ret
          exact ⟨by first | rfl | (simp; done) | (simp [*]; done), by repeat (first | exact Drawn0.refl _ | apply Drawn0.step)⟩

end Go.Proofs.Ytcjijhjdkgjgeaa.P
namespace Go.Proofs.Ytcjijhjdkgjgeaa.P
open Go.RowKit Go.Proofs.YtcjijhjdkgjgeaaW.PrintWords Go.Proofs.YtcjijhjdkgjgeaaW.PrintLast Go.Proofs.YtcjijhjdkgjgeaaW.PrintMore
attribute [local go_sem] max2_int min2_int max_two min_two max_three min_three max_four min_four   -- for this text's walks alone
set_option linter.unusedVariables false
set_option linter.unusedSimpArgs false

-- PART
/-! ### canon_Book_weight: function 73 (by hand) -/
/-- What so many codes of each length weigh, up to a length; how many there are. -/
def weighTo (c : Nat → Nat) : Nat → Nat
  | 0 => 0
  | n + 1 => weighTo c n + c (n + 1) * 2 ^ (15 - (n + 1))
def allTo (c : Nat → Nat) : Nat → Nat
  | 0 => 0
  | n + 1 => allTo c n + c (n + 1)
theorem weighTo_le (c : Nat → Nat) (T : Nat) (hc : ∀ n, c n ≤ T) : ∀ n, weighTo c n ≤ n * (T * 32768)
  | 0 => by simp [weighTo]
  | n + 1 => by
    have ih := weighTo_le c T hc n
    have h1 : 2 ^ (15 - (n + 1)) ≤ 2 ^ 15 := Nat.pow_le_pow_right (by decide) (by omega)
    have h2 := Nat.mul_le_mul (hc (n + 1)) h1
    simp only [weighTo]
    rw [Nat.add_mul]
    omega
theorem allTo_le (c : Nat → Nat) (T : Nat) (hc : ∀ n, c n ≤ T) : ∀ n, allTo c n ≤ n * T
  | 0 => by simp [allTo]
  | n + 1 => by
    have ih := allTo_le c T hc n
    have := hc (n + 1)
    simp only [allTo]
    rw [Nat.add_mul]
    omega
set_option maxHeartbeats 8000000 in
set_option maxRecDepth 100000 in
theorem book_weight (base g : Nat) (F : Nat → Int) (S : Nat → List Int) (w : World) (hb : BookAt w base g F S) (hS : ∀ n, (S n).length ≤ 1000000) :
    Calls Try.prog 73 #[.pointer (some ⟨g, 0, none⟩)] w fun e w' => e = .returned (.tuple #[.int .i64 (weighTo (fun n => (S n).length) 15), .int .i64 (allTo (fun n => (S n).length) 15)]) ∧ w' = w := by
  have HB := Aside0.mk hb
  have HW := Aside0.mk (weighTo_le (fun n => (S n).length) 1000000 hS)
  have HA := Aside0.mk (allTo_le (fun n => (S n).length) 1000000 hS)
  have HS := Aside0.mk hS
  clear hb hS
  go_enter Try.func73, Try.ntmps73
  go_wp2_with fail
  go_loop [2, 3, 4] (fun v2 v3 v4 => ∃ n : Nat, n ≤ 15 ∧ v2 = .int .i64 (weighTo (fun n => (S n).length) n) ∧ v3 = .int .i64 (allTo (fun n => (S n).length) n) ∧ v4 = .int .i64 ((n : Int) + 1)) (fun _ _ v4 => (16 - intOf v4).toNat)
  case atStart => exact ⟨0, by omega, rfl, rfl, rfl⟩
  case round =>
    obtain ⟨n, hn, rfl, rfl, rfl⟩ := hrel
    by_cases hlt : n < 15
    · obtain ⟨hm1, hm2⟩ := HB.out.many (n + 1) (by omega)
      have hw0 := HW.out n
      have hw1 := HW.out (n + 1)
      have ha0 := HA.out n
      have hc := HS.out (n + 1)
      have E1 := Aside0.mk (show weighTo (fun n => (S n).length) (n + 1) = weighTo (fun n => (S n).length) n + (S (n + 1)).length * 2 ^ (15 - (n + 1)) from rfl)
      have E2 := Aside0.mk (show allTo (fun n => (S n).length) (n + 1) = allTo (fun n => (S n).length) n + (S (n + 1)).length from rfl)
      go_wp2_with fail
      have e1 : ((S (n + 1)).length : Int) * 2 ^ (14 - n) = (((S (n + 1)).length * 2 ^ (15 - (n + 1)) : Nat) : Int) := by rw [show 15 - (n + 1) = 14 - n from by omega]; simp
      have e2 := E1.out
      have e3 := E2.out
      have hp : (S (n + 1)).length * 2 ^ (15 - (n + 1)) ≤ 1000000 * 32768 := Nat.mul_le_mul hc (by have := Nat.pow_le_pow_right (n := 2) (by decide) (show 15 - (n + 1) ≤ 15 by omega); simpa using this)
      refine ⟨⟨n + 1, by omega, ?_, by rw [e3]; go_num, by go_num⟩, by simp [intOf]; omega⟩
      rw [e1, e2]
      generalize (S (n + 1)).length * 2 ^ (15 - (n + 1)) = q at *
      have : wrap64 (q : Int) = q := by unfold wrap64; omega
      rw [this]
      have : wrap64 ((weighTo (fun n => (S n).length) n : Int) + q) = (weighTo (fun n => (S n).length) n : Int) + q := by unfold wrap64; omega
      rw [this]
      rfl
    · have hn2 : n = 15 := by omega
      subst hn2
      go_wp2_with fail
      go_ret2
      exact ⟨rfl, rfl⟩

-- PART
end Go.Proofs.Ytcjijhjdkgjgeaa.P
namespace Go.Proofs.Ytcjijhjdkgjgeaa.P
open Go.RowKit Go.Proofs.YtcjijhjdkgjgeaaW.PrintWords Go.Proofs.YtcjijhjdkgjgeaaW.PrintLast Go.Proofs.YtcjijhjdkgjgeaaW.PrintMore
attribute [local go_sem] max2_int min2_int max_two min_two max_three min_three max_four min_four   -- for this text's walks alone
set_option linter.unusedVariables false
set_option linter.unusedSimpArgs false

-- PART
/-! ### canon_Check: function 60 (by hand) -/
/-- Are lengths right? -/
def rightB (l : List Int) : Bool := decide (l.length ≤ 300) && l.all (fun x => decide (0 ≤ x) && decide (x ≤ 15))
theorem rightB_iff (l : List Int) : rightB l = true ↔ l.length ≤ 300 ∧ ∀ x ∈ l, 0 ≤ x ∧ x ≤ 15 := by
  unfold rightB
  simp [List.all_eq_true]
theorem right_loop (l : List Int) (hl : l.length ≤ 300) : ∀ (d i k : Nat), i + d = l.length → d < k → canon_right.l0 k l (l.length : Int) (i : Int) = some ((l.drop i).all (fun x => decide (0 ≤ x) && decide (x ≤ 15))) := by
  intro d
  induction d with
  | zero =>
    intro i k hi hk
    obtain ⟨k, rfl⟩ : ∃ m, k = m + 1 := ⟨k - 1, by omega⟩
    simp only [canon_right.l0]
    rw [if_neg (by omega), List.drop_of_length_le (by omega)]
    rfl
  | succ d ih =>
    intro i k hi hk
    obtain ⟨k, rfl⟩ : ∃ m, k = m + 1 := ⟨k - 1, by omega⟩
    have hlt : i < l.length := by omega
    simp only [canon_right.l0]
    rw [if_pos (by omega), if_pos (by omega), if_pos (by omega), show wrap64 ((i : Int) + 1) = ((i + 1 : Nat) : Int) from by unfold wrap64; omega]
    have e : rd l (i : Int) = l[i] := by unfold rd; rw [Int.toNat_natCast, List.getD_eq_getElem?_getD, List.getElem?_eq_getElem hlt]; rfl
    rw [List.drop_eq_getElem_cons hlt, List.all_cons, e]
    by_cases h0 : l[i] < 0
    · rw [if_pos h0, decide_eq_false (by omega)]; rfl
    · rw [if_neg h0]
      by_cases h1 : l[i] > 15
      · rw [if_pos h1, decide_eq_true (by omega), decide_eq_false (by omega)]; rfl
      · rw [if_neg h1, ih (i + 1) k (by omega) (by omega), decide_eq_true (by omega), decide_eq_true (by omega)]; rfl
theorem right_is (l : List Int) : canon_right.f 400 l = some (rightB l) := by
  unfold canon_right.f rightB
  by_cases h : l.length ≤ 300
  · rw [if_neg (by omega), decide_eq_true h]
    have := right_loop l h l.length 0 400 (by omega) (by omega)
    simpa using this
  · rw [if_pos (by omega), decide_eq_false h]; rfl
/-- What lengths weigh; how many codes there are; how many of one bit. -/
def cW (l : List Int) : Nat := weighTo (fun n => (symsTo l l.length n).length) 15
def cA (l : List Int) : Nat := allTo (fun n => (symsTo l l.length n).length) 15
def makesB (l : List Int) : Bool := cW l == 32768 || (cA l == 0 || (cA l == 1 && (symsTo l l.length 1).length == 1))
def canon_Check.f (l0 : List Int) : Option (Int) := some (if rightB l0 then (if makesB l0 then 0 else 4) else 1)
theorem check_right0 {l : List Int} (h : canon_Check.f l = some 0) : l.length ≤ 300 ∧ ∀ x ∈ l, 0 ≤ x ∧ x ≤ 15 := by
  unfold canon_Check.f at h
  by_cases hr : rightB l = true
  · exact (rightB_iff l).1 hr
  · rw [if_neg hr] at h; simp at h
set_option maxHeartbeats 8000000 in
set_option maxRecDepth 100000 in
theorem canon_Check.calls (A0 : Option Addr) (c0 : Nat) (l0 : List Int) (r : Int) (w : World) (hr0 : Kd.C (Kd.int .i64) w A0 l0.length l0) (hc0 : l0.length ≤ c0) (h : canon_Check.f l0 = some r) :
    Calls Try.prog 60 #[.slice A0 l0.length c0] w fun e w' => e = .returned (.int .i64 r) ∧ Below w.heap.size w w' := by
  have HR := Aside0.mk hr0
  have HC := Aside0.mk hc0
  have H := Aside0.mk h
  clear hr0 hc0 h
  obtain ⟨q, hq⟩ : ∃ q, q = rightB l0 := ⟨_, rfl⟩
  have HQ := Aside0.mk hq
  clear hq
  go_enter Try.func60, Try.ntmps60
  go_wp2_with fail
  refine (canon_right.calls 400 _ _ l0 q w HR.out HC.out (by rw [HQ.out]; exact right_is l0)).mono ?_
  rintro e1 w1 ⟨rfl, hd⟩
  cases q with
  | false =>
    go_wp2_with fail
    go_ret
    have h := H.out
    unfold canon_Check.f at h
    rw [← HQ.out] at h
    simp at h
    subst h
    exact ⟨rfl, hd.below⟩
  | true =>
    obtain ⟨h1, h2⟩ := (rightB_iff l0).1 HQ.out.symm
    have HX := Aside0.mk h2
    clear h2
    go_wp2_with fail
    refine (open_book _ _ l0 w1 (Kd.C_below HR.out hd.below) HC.out HX.out (by omega)).mono ?_
    rintro e2 w2 ⟨g, rfl, hb, hbl⟩
    have HB := Aside0.mk hb
    have HL := Aside0.mk (And.intro hd hbl)
    clear hb hd hbl
    go_wp2_with fail
    refine (book_weight _ g _ _ w2 HB.out (fun n => Nat.le_trans (symsTo_len _ _ _) (by omega))).mono ?_
    rintro e3 w3 ⟨rfl, rfl⟩
    have h := H.out
    unfold canon_Check.f makesB cW cA at h
    rw [← HQ.out, if_pos rfl] at h
    injection h with h
    have H3 := Aside0.mk h
    clear h
    obtain ⟨hm1, hm2⟩ := HB.out.many 1 (by omega)
    generalize weighTo (fun n => (symsTo l0 l0.length n).length) 15 = W at *
    generalize allTo (fun n => (symsTo l0 l0.length n).length) 15 = A at *
    generalize (symsTo l0 l0.length 1).length = O at *
    by_cases b1 : W = 32768
    · subst b1
      go_wp2_with fail
      go_ret
      exact ⟨by rw [← H3.out]; rfl, below_then HL.out.1.below HL.out.1.below.size HL.out.2⟩
    · have d1 : ((W : Int) == 32768) = false := by rw [beq_eq_false_iff_ne]; omega
      by_cases b2 : A = 0
      · subst b2
        go_wp2_with fail
        go_ret
        exact ⟨by rw [← H3.out, show (W == 32768) = false from beq_eq_false_iff_ne.2 b1]; rfl, below_then HL.out.1.below HL.out.1.below.size HL.out.2⟩
      · have d2 : ((A : Int) == 0) = false := by rw [beq_eq_false_iff_ne]; omega
        by_cases b3 : A = 1
        · subst b3
          by_cases b4 : O = 1
          · subst b4
            go_wp2_with fail
            go_ret
            exact ⟨by rw [← H3.out, show (W == 32768) = false from beq_eq_false_iff_ne.2 b1]; rfl, below_then HL.out.1.below HL.out.1.below.size HL.out.2⟩
          · have d4 : ((O : Int) == 1) = false := by rw [beq_eq_false_iff_ne]; omega
            go_wp2_with fail
            go_ret
            exact ⟨by rw [← H3.out, show (W == 32768) = false from beq_eq_false_iff_ne.2 b1, show (O == 1) = false from beq_eq_false_iff_ne.2 b4]; rfl, below_then HL.out.1.below HL.out.1.below.size HL.out.2⟩
        · have d3 : ((A : Int) == 1) = false := by rw [beq_eq_false_iff_ne]; omega
          go_wp2_with fail
          go_ret
          exact ⟨by rw [← H3.out, show (W == 32768) = false from beq_eq_false_iff_ne.2 b1, show (A == 0) = false from beq_eq_false_iff_ne.2 b2, show (A == 1) = false from beq_eq_false_iff_ne.2 b3]; rfl, below_then HL.out.1.below HL.out.1.below.size HL.out.2⟩

-- PART
end Go.Proofs.Ytcjijhjdkgjgeaa.P
namespace Go.Proofs.Ytcjijhjdkgjgeaa.P
open Go.RowKit Go.Proofs.YtcjijhjdkgjgeaaW.PrintWords Go.Proofs.YtcjijhjdkgjgeaaW.PrintLast Go.Proofs.YtcjijhjdkgjgeaaW.PrintMore
attribute [local go_sem] max2_int min2_int max_two min_two max_three min_three max_four min_four   -- for this text's walks alone
set_option linter.unusedVariables false
set_option linter.unusedSimpArgs false

/-! ### shrink_Order: function 40 -/
def shrink_Order.f  : Option (List Int) := some (([16, 17, 18, 0, 8, 7, 9, 6, 10, 5, 11, 4, 12, 3, 13, 2, 14, 1, 15] : List Int))
set_option maxHeartbeats 8000000 in
set_option maxRecDepth 100000 in
theorem shrink_Order.calls  (r : List Int) (w : World) (h : shrink_Order.f  = some r) :
    Calls Try.prog 40 #[] w fun e w' => ∃ v0_ : Value, e = .returned (v0_) ∧ Kd.R (Kd.int .i64) 3 w' w.heap.size (fun _ => True) v0_ r ∧ Below w.heap.size w w' := by
  have HB := Aside0.mk (Below.refl w.heap.size w)
  have H : (some (([16, 17, 18, 0, 8, 7, 9, 6, 10, 5, 11, 4, 12, 3, 13, 2, 14, 1, 15] : List Int))) = some r := h
  clear h
  obtain ⟨y129, hy129⟩ : ∃ y_ : List Int, y_ = (([16, 17, 18, 0, 8, 7, 9, 6, 10, 5, 11, 4, 12, 3, 13, 2, 14, 1, 15] : List Int)) := ⟨_, rfl⟩
  replace H : (some y129) = some r := by first | (rw [hy129]; with_reducible exact H) | (have H2_ := (Option.bind_some _ _).symm.trans H; rw [hy129]; with_reducible exact H2_) | (have H2_ := (Option.bind_some _ _).symm.trans H; with_reducible exact H2_) | with_reducible exact H | (rw [hy129]; exact H) | exact H
  have Ny129 := Aside0.mk hy129
  clear hy129
  obtain rfl := Option.some.inj H
  go_enter Try.func40, Try.ntmps40
  go_wp2_with (first | ((with_reducible refine gate_dst (N := 1) rfl ?_); refine Kd.R_lit (Kd.int .i64) _ 3 ?hg (N := 1) ?hd (xs := ([16, 17, 18, 0, 8, 7, 9, 6, 10, 5, 11, 4, 12, 3, 13, 2, 14, 1, 15] : List Int)) (inner := [.int .i64 16, .int .i64 17, .int .i64 18, .int .i64 0, .int .i64 8, .int .i64 7, .int .i64 9, .int .i64 6, .int .i64 10, .int .i64 5, .int .i64 11, .int .i64 4, .int .i64 12, .int .i64 3, .int .i64 13, .int .i64 2, .int .i64 14, .int .i64 1, .int .i64 15]) (ok := fun _ => True) (okp := fun _ => True) ?hr ?hp (fun _ hk => hk) trivial (Below.refl _ _) (Nat.le_refl _) (by simp) ?_; (case hd => rfl); (case hg => rfl); (case hr => first | (go_simp; done) | (go_simp; rfl)); (case hp => exact (Reps.one (show Kd.M (Kd.int .i64) _ _ _ 16 [.int .i64 16] from rfl) (Reps.one (show Kd.M (Kd.int .i64) _ _ _ 17 [.int .i64 17] from rfl) (Reps.one (show Kd.M (Kd.int .i64) _ _ _ 18 [.int .i64 18] from rfl) (Reps.one (show Kd.M (Kd.int .i64) _ _ _ 0 [.int .i64 0] from rfl) (Reps.one (show Kd.M (Kd.int .i64) _ _ _ 8 [.int .i64 8] from rfl) (Reps.one (show Kd.M (Kd.int .i64) _ _ _ 7 [.int .i64 7] from rfl) (Reps.one (show Kd.M (Kd.int .i64) _ _ _ 9 [.int .i64 9] from rfl) (Reps.one (show Kd.M (Kd.int .i64) _ _ _ 6 [.int .i64 6] from rfl) (Reps.one (show Kd.M (Kd.int .i64) _ _ _ 10 [.int .i64 10] from rfl) (Reps.one (show Kd.M (Kd.int .i64) _ _ _ 5 [.int .i64 5] from rfl) (Reps.one (show Kd.M (Kd.int .i64) _ _ _ 11 [.int .i64 11] from rfl) (Reps.one (show Kd.M (Kd.int .i64) _ _ _ 4 [.int .i64 4] from rfl) (Reps.one (show Kd.M (Kd.int .i64) _ _ _ 12 [.int .i64 12] from rfl) (Reps.one (show Kd.M (Kd.int .i64) _ _ _ 3 [.int .i64 3] from rfl) (Reps.one (show Kd.M (Kd.int .i64) _ _ _ 13 [.int .i64 13] from rfl) (Reps.one (show Kd.M (Kd.int .i64) _ _ _ 2 [.int .i64 2] from rfl) (Reps.one (show Kd.M (Kd.int .i64) _ _ _ 14 [.int .i64 14] from rfl) (Reps.one (show Kd.M (Kd.int .i64) _ _ _ 1 [.int .i64 1] from rfl) (Reps.one (show Kd.M (Kd.int .i64) _ _ _ 15 [.int .i64 15] from rfl) (Reps.none _ _))))))))))))))))))))); intro v130 w1 ho2 hb hg_ hnew_; clear hg_ hnew_; (first | rw [← Ny129.out] at ho2 | (simp only [Int.reduceToNat] at ho2; rw [← Ny129.out] at ho2)); have n0_ := Aside0.mk (Kd.R_lower ho2 (below_size (by repeat (first | (with_reducible first | exact HB.out | apply below_alloc | apply pw_below_drewN | apply below_drew1) | exact HB.out)))); have n1_ := Aside0.mk (below_step (by repeat (first | (with_reducible first | exact HB.out | apply below_alloc | apply pw_below_drewN | apply below_drew1) | exact HB.out)) hb); clear HB; have HO131 := n0_; have HB := n1_; clear n0_ n1_; clear hb ho2))
  go_ret
  exact ⟨_, by first | rfl | (simp [errW_none, errW_some] <;> rfl) | (simp [*, errW_none, errW_some] <;> rfl), by (with_reducible repeat (first | apply Kd.R_alloc | apply Kd.R_drewN | apply Kd.R_drew)); exact HO131.out, by repeat (first | (with_reducible first | exact HB.out | apply below_alloc | apply pw_below_drewN | apply below_drew1) | exact HB.out)⟩

end Go.Proofs.Ytcjijhjdkgjgeaa.P
namespace Go.Proofs.Ytcjijhjdkgjgeaa.P
open Go.RowKit Go.Proofs.YtcjijhjdkgjgeaaW.PrintWords Go.Proofs.YtcjijhjdkgjgeaaW.PrintLast Go.Proofs.YtcjijhjdkgjgeaaW.PrintMore
attribute [local go_sem] max2_int min2_int max_two min_two max_three min_three max_four min_four   -- for this text's walks alone
set_option linter.unusedVariables false
set_option linter.unusedSimpArgs false

-- PART
/-! ### grow_reader_own: function 65 (by hand) -/
theorem introw_keepT {W W' : World} {base : Nat} {v : Value} {xs : List Int} (h : Kd.R (Kd.int .i64) 3 W base (fun _ => True) v xs) (hk : KeepT W W') : Kd.R (Kd.int .i64) 3 W' base (fun _ => True) v xs :=
  brow_stay h fun k hkk => by
    obtain ⟨cells, hc⟩ := brow_cells h hkk
    rw [hc]
    exact hk.2 _ _ _ hc (by decide) (by decide)
theorem Rdr.int_put {w0 W : World} {g : Nat} {b : List Int} {most : Int} {s : RSt} (h : Rdr w0 W g b most s) {p : Nat} {cs : Array Value} (hp : W.heap[p]? = some (.cells cs 3 (0, 0))) (i : Nat) (v : Value) : Rdr w0 (W.setCell ⟨p, i, none⟩ v) g b most s := by
  obtain ⟨A0, c0, v3, h1, h2, h3, h4, h5⟩ := h
  have hne : g ≠ p := by
    rintro rfl
    rw [h1] at hp
    injection hp with hp
    injection hp with _ ht
    exact absurd ht (by decide)
  exact ⟨A0, c0, v3, blk_far (p := ⟨p, i, none⟩) h1 hne v, h2, h3, h4, Kd.R_mono (Kd.R_far (p := ⟨p, i, none⟩) (Kd.R_types h5 hp (by decide)) (fun _ hk => hk.2) v) (fun _ hk => hk.1)⟩
theorem KeepT.fresh {w W : World} (h : KeepT w W) {p : Nat} (hp : w.heap.size ≤ p) (i : Nat) (v : Value) : KeepT w (W.setCell ⟨p, i, none⟩ v) := by
  refine ⟨by have := h.1; simp [World.setCell]; omega, fun k c t hk h5 h9 => blk_far (p := ⟨p, i, none⟩) (h.2 k c t hk h5 h9) ?_ v⟩
  have := heap_lt hk
  show k ≠ p
  omega
def ordL : List Int := [16, 17, 18, 0, 8, 7, 9, 6, 10, 5, 11, 4, 12, 3, 13, 2, 14, 1, 15]
theorem ord_in : ∀ i : Fin 19, 0 ≤ ordL.getD i.val 0 ∧ ordL.getD i.val 0 < 19 := by decide
/-- The lengths' own, from the i-th on. -/
def ownL (b : List Int) : Nat → Nat → List Int → RSt → Option (List Int × RSt)
  | 0, _, out, s => some (out, s)
  | d + 1, i, out, s => (takeS b s 3).bind fun r => ownL b d (i + 1) (out.set (ordL.getD i 0).toNat r.1) r.2
def ownS (b : List Int) (s : RSt) (many : Int) : Option (List Int × RSt) :=
  if 0 ≤ many ∧ many ≤ 19 then (ownL b many.toNat 0 (List.replicate 19 0) s).bind fun r => (canon_Check.f r.1).bind fun e => some (r.1, wantS r.2 (e == 0) 3) else none
set_option maxHeartbeats 8000000 in
set_option maxRecDepth 100000 in
theorem rdr_own (g : Nat) (b : List Int) (most : Int) (s : RSt) (many : Int) (r1 : List Int) (sr : RSt) (w0 w : World) (hR : Rdr w0 w g b most s) (hB : Below w0.heap.size w0 w) (h : ownS b s many = some (r1, sr)) :
    Calls Try.prog 65 #[.pointer (some ⟨g, 0, none⟩), .int .i64 many] w fun r w' => ∃ v, r = .returned v ∧ Kd.R (Kd.int .i64) 3 w' w.heap.size (fun _ => True) v r1 ∧ Rdr w0 w' g b most sr ∧ Below w0.heap.size w0 w' ∧ KeepT w w' := by
  unfold ownS at h
  by_cases hm : 0 ≤ many ∧ many ≤ 19
  rotate_left
  · rw [if_neg hm] at h; cases h
  rw [if_pos hm] at h
  obtain ⟨m, rfl⟩ : ∃ m : Nat, many = (m : Int) := ⟨many.toNat, by omega⟩
  rw [Int.toNat_natCast] at h
  have hm19 : m ≤ 19 := by omega
  have hm19i : (m : Int) ≤ 19 := by omega
  obtain ⟨⟨ra, sa⟩, hl, h⟩ := Option.bind_eq_some_iff.1 h
  obtain ⟨e0, hc, h⟩ := Option.bind_eq_some_iff.1 h
  have HL := Aside0.mk hl
  have HCk := Aside0.mk hc
  have HE := Aside0.mk h
  have HR := Aside0.mk hR
  have HB := Aside0.mk hB
  clear h hl hc hR hB hm
  go_enter Try.func65, Try.ntmps65
  go_wp2_with fail
  refine (shrink_Order.calls _ w rfl).mono ?_
  rintro e w1 ⟨vo, rfl, ho, hb⟩
  obtain ⟨g0, c0, e1, hg1, hg2, ocs, hocs⟩ := Kd.R_form ho (by decide)
  subst e1
  have HB1 := Aside0.mk (show Below w0.heap.size w0 w1 from below_then HB.out HB.out.size hb)
  have HR1 := Aside0.mk (HR.out.below hb)
  have HK1 := Aside0.mk (KeepT.of_below hb)
  have HS1 := Aside0.mk hb.size
  clear hb ho hocs hg1 hg2 HR HB
  go_wp2_with (refine Kd.R_make (Kd.int .i64) (w0 := w1) w1.heap.size 3 rfl rfl 73 (.tmp 9) (.tmp 9) rfl (19 : Int) rfl rfl Try.underlying73 (.int .i64 0) 8 info3 rfl (by decide) (by decide) (0 : Int) (ok := fun _ => True) (okp := fun _ => False) rfl (fun _ hk => hk.elim) trivial (by omega) (by omega) (Below.refl _ _) (Nat.le_refl _) ?_; intro v1 wB ho hb hg hat; (have HO := Aside0.mk ho); (have HBm := Aside0.mk hb); clear ho hb hg hat)
  rw [show (19 : Int).toNat = 19 from rfl] at HO
  obtain ⟨go, co, e1, hgo1, hgo2, ocs, hocs⟩ := Kd.R_form HO.out (by decide)
  rw [List.length_replicate] at e1
  subst e1
  have HBB := Aside0.mk (show Below w0.heap.size w0 wB from below_then HB1.out HB1.out.size HBm.out)
  have HRB := Aside0.mk (HR1.out.below HBm.out)
  have HKB := Aside0.mk (HK1.out.below HBm.out)
  have HGo := Aside0.mk (show w.heap.size ≤ go ∧ w0.heap.size ≤ go from ⟨Nat.le_trans HS1.out hgo1, Nat.le_trans HB1.out.size hgo1⟩)
  have HGo2 := Aside0.mk hgo2
  clear HR1 HB1 HK1 HBm hocs hgo1 hgo2
  refine (shrink_Order.calls _ wB rfl).mono ?_
  rintro e w2 ⟨vo, rfl, ho, hb⟩
  obtain ⟨g2, c2, e1, hg1, hg2, ocs2, hocs2⟩ := Kd.R_form ho (by decide)
  subst e1
  have hc19 := (Kd.R_reads' ho).2.1
  have hl19 : ([16, 17, 18, 0, 8, 7, 9, 6, 10, 5, 11, 4, 12, 3, 13, 2, 14, 1, 15] : List Int).length = 19 := rfl
  have HORD := Aside0.mk (show Kd.R (Kd.int .i64) 3 w2 wB.heap.size (fun _ => True) (.slice (some ⟨g2, 0, none⟩) 19 c2) ordL from ho)
  have HO2 := Aside0.mk (introw_keepT (Kd.R_below HO.out hb) (KeepT.refl _))
  have HB2 := Aside0.mk (show Below w0.heap.size w0 w2 from below_then HBB.out HBB.out.size hb)
  have HR2 := Aside0.mk (HRB.out.below hb)
  have HK2 := Aside0.mk (HKB.out.below hb)
  have HG2o := Aside0.mk hg1
  clear hb ho hocs2 hg1 hg2 HRB HBB HKB HO
  rw [hl19] at hc19
  have hcm : m ≤ c2 := by omega
  have hcmi : (m : Int) ≤ (c2 : Int) := by omega
  go_wp2_with fail
  clear h
  go_loopg [15] m (fun kq v15 w' => ∃ (i : Nat) (oi : List Int) (si : RSt), v15 = .int .i64 i ∧ i ≤ m ∧ oi.length = 19 ∧ Aside0 (kq + i = m) ∧ Aside0 (ownL b (m - i) i oi si = some (ra, sa)) ∧ Aside0 (Kd.R (Kd.int .i64) 3 w' w1.heap.size (fun _ => True) (.slice (some ⟨go, 0, none⟩) 19 co) oi) ∧ Aside0 (Kd.R (Kd.int .i64) 3 w' wB.heap.size (fun _ => True) (.slice (some ⟨g2, 0, none⟩) 19 c2) ordL) ∧ Aside0 (Rdr w0 w' g b most si) ∧ Aside0 (Below w0.heap.size w0 w') ∧ Aside0 (KeepT w w'))
  case atStart => exact ⟨0, _, s, rfl, Nat.zero_le _, rfl, ⟨rfl⟩, HL, HO2, HORD, HR2, HB2, HK2⟩
  case round =>
    clear HL HO2 HORD HR2 HB2 HK2
    obtain ⟨i, oi, si, rfl, hi, hol, HG, HL, HO, HORD, HR, HB, HK⟩ := hrel
    by_cases hlt : i < m
    · have h := HL.out
      rw [show m - i = (m - i - 1) + 1 from by omega] at h
      unfold ownL at h
      obtain ⟨⟨v3, s3⟩, ht, h⟩ := Option.bind_eq_some_iff.1 h
      have HT := Aside0.mk ht
      have HL2 := Aside0.mk h
      have hx := ord_in ⟨i, by omega⟩
      obtain ⟨q, hq⟩ : ∃ q : Nat, ordL.getD i 0 = (q : Int) := ⟨(ordL.getD i 0).toNat, by simp only at hx; omega⟩
      have hq19 : q < 19 := by simp only at hx; omega
      obtain ⟨hcell, _⟩ := Kd.R_celln (0 : Int) HORD.out (i : Int) (by omega) (by show (i : Int) < 19; omega)
      rw [show rdOf (0 : Int) ordL (i : Int) = (q : Int) from by unfold rdOf; rw [Int.toNat_natCast]; exact hq, Int.toNat_natCast] at hcell
      rw [hq, Int.toNat_natCast] at HL2
      have hq0 : (0 : Int) ≤ (q : Int) := by omega
      have hqi : (q : Int) < 19 := by omega
      have hii : (i : Int) < (m : Int) := by omega
      clear ht h HL hx hq
      go_wp2_with fail
      refine (rdr_take g b most si 3 v3 s3 w0 wr HR.out HB.out HT.out).mono ?_
      rintro e w3 ⟨rfl, hR3, hB3, hK3⟩
      have HR3 := Aside0.mk hR3
      have HB3 := Aside0.mk hB3
      have HO3 := Aside0.mk (introw_keepT HO.out hK3)
      have HORD3 := Aside0.mk (introw_keepT HORD.out hK3)
      have HK3 := Aside0.mk (HK.out.trans hK3)
      clear hR3 hB3 hK3 HR HB HO HORD HK hcell
      obtain ⟨hoc, hof⟩ := Kd.R_celln (0 : Int) HO3.out (q : Int) hq0 hqi
      have HP := Aside0.mk (Kd.R_putn HO3.out (q : Int) v3)
      rw [Int.toNat_natCast] at hoc hof HP
      obtain ⟨cso, hcso⟩ := brow_cells HO3.out (k := go) rfl
      have HRp := Aside0.mk (HR3.out.int_put hcso q (.int .i64 v3))
      have HKp := Aside0.mk (HK3.out.fresh HGo.out.1 q (.int .i64 v3))
      have HBp := Aside0.mk (HB3.out.setCell (p := ⟨go, q, none⟩) HGo.out.2 (.int .i64 v3))
      have HORDp := Aside0.mk (brow_stay HORD3.out (w' := w3.setCell ⟨go, q, none⟩ (.int .i64 v3)) fun k hk => Below.heap_setCell w3 ⟨go, q, none⟩ _ k (by
        have h1 := HG2o.out
        have h2 := HGo2.out
        have h3 : some g2 = some k := hk
        injection h3 with h3
        show k ≠ go
        omega))
      clear hcso HR3 HB3 HO3 HORD3 HK3
      go_wp2_with fail
      go_roundg (gk - 1)
      case measure => have := HG.out; omega
      case rel => exact ⟨i + 1, _, _, by go_num, by omega, by rw [List.length_set]; exact hol, ⟨by have := HG.out; omega⟩, ⟨by rw [show m - (i + 1) = m - i - 1 from by omega]; exact HL2.out⟩, HP, HORDp, HRp, HBp, HKp⟩
    · have hi2 : i = m := by omega
      subst hi2
      have h := HL.out
      rw [Nat.sub_self] at h
      unfold ownL at h
      injection h with h
      injection h with h1 h2
      subst h1 h2
      go_wp2_with fail
      have hcall := canon_Check.calls (some ⟨go, 0, none⟩) co oi e0 wr (Kd.R_reads' HO.out).2.2 (by have := (Kd.R_reads' HO.out).2.1; omega) HCk.out
      rw [hol] at hcall
      refine hcall.mono ?_
      rintro e w3 ⟨rfl, hb⟩
      have HR3 := Aside0.mk (HR.out.below hb)
      have HB3 := Aside0.mk (show Below w0.heap.size w0 w3 from below_then HB.out HB.out.size hb)
      have HK3 := Aside0.mk (HK.out.below hb)
      have HO3 := Aside0.mk (Kd.R_below HO.out hb)
      clear hb HR HB HK HO HORD hcall
      go_wp2_with fail
      refine (rdr_want g b most si (e0 == 0) 3 w0 w3 HR3.out HB3.out).mono ?_
      rintro e w4 ⟨rfl, hR4, hB4, hK4⟩
      have h := HE.out
      injection h with h
      injection h with h1 h2
      subst h1
      rw [h2] at hR4 ⊢
      have HR4 := Aside0.mk hR4
      have HB4 := Aside0.mk hB4
      have HO4 := Aside0.mk (introw_keepT HO3.out hK4)
      have HK4 := Aside0.mk (HK3.out.trans hK4)
      clear hR4 hB4 hK4 h2
      go_wp2_with fail
      go_ret
      exact ⟨_, rfl, Kd.R_lower HO4.out HS1.out, HR4.out, HB4.out, HK4.out⟩

-- PART
end Go.Proofs.Ytcjijhjdkgjgeaa.P
namespace Go.Proofs.Ytcjijhjdkgjgeaa.P
open Go.RowKit Go.Proofs.YtcjijhjdkgjgeaaW.PrintWords Go.Proofs.YtcjijhjdkgjgeaaW.PrintLast Go.Proofs.YtcjijhjdkgjgeaaW.PrintMore
attribute [local go_sem] max2_int min2_int max_two min_two max_three min_three max_four min_four   -- for this text's walks alone
set_option linter.unusedVariables false
set_option linter.unusedSimpArgs false

-- PART
/-! ### grow_reader_row: function 66 (by hand) -/
theorem introw_keepT' {W W' : World} {base : Nat} {ok : Nat → Prop} {v : Value} {xs : List Int} (h : Kd.R (Kd.int .i64) 3 W base ok v xs) (hk : KeepT W W') : Kd.R (Kd.int .i64) 3 W' base ok v xs :=
  Kd.R_of_own (own_move (Kd.own_of_R h) fun k hkk => by
    obtain ⟨cells, hc⟩ := own_typed (Kd.own_of_R h) k hkk
    rw [hc]
    exact hk.2 _ _ _ hc (by decide) (by decide)) h.1
theorem Rdr.grown {w0 W W1 : World} {g : Nat} {b : List Int} {most : Int} {s : RSt} (h : Rdr w0 W g b most s) {row : Option Nat} (hw : W.grownBy W1 row) (hr : ∀ p, row = some p → ∃ cs, W.heap[p]? = some (.cells cs 3 (0, 0))) : Rdr w0 W1 g b most s := by
  obtain ⟨A0, c0, v3, h1, h2, h3, h4, h5⟩ := h
  have hne : ∀ (q : Nat) (cs : Array Value) (ty : TypeId), W.heap[q]? = some (.cells cs ty (0, 0)) → ty ≠ 3 → some q ≠ row := by
    intro q cs ty hq ht he
    obtain ⟨cs2, hp⟩ := hr q he.symm
    rw [hq] at hp
    injection hp with hp
    injection hp with _ hp
    exact ht hp
  refine ⟨A0, c0, v3, blk_grown h1 hw (hne g _ _ h1 (by decide)), h2, h3, h4, ?_⟩
  refine Kd.R_of_own (own_move (Kd.own_of_R h5) fun k hk => ?_) (fun _ _ => trivial)
  obtain ⟨cells, hc⟩ := own_typed (Kd.own_of_R h5) k hk
  exact hw.block k (heap_lt hc) (hne k _ _ hc (by decide))
theorem KeepT.grown_fresh {w W W1 : World} (h : KeepT w W) {row : Option Nat} (hw : W.grownBy W1 row) (hr : ∀ p, row = some p → w.heap.size ≤ p) : KeepT w W1 := by
  refine ⟨Nat.le_trans h.1 hw.size, fun k c t hk h5 h9 => ?_⟩
  have h1 := h.2 k c t hk h5 h9
  refine (hw.block k (heap_lt h1) fun he => ?_).trans h1
  have := hr k he.symm
  have := heap_lt hk
  omega
/-- A value so many times, behind a look for room. -/
def rowP (many : Int) (k : List Int → RSt → Option (List Int × RSt)) (out : List Int) (v c : Int) (s : RSt) : Option (List Int × RSt) :=
  if 0 ≤ c ∧ c ≤ 1000000 ∧ out.length ≤ 1000000000 then k (out ++ List.replicate c.toNat v) (wantS s (decide (c ≤ wrap64 (many - out.length))) 3) else none
/-- So many lengths, by the lengths' own. -/
def rowL (F : Nat → Int) (S : Nat → List Int) (b : List Int) (many : Int) : Nat → List Int → RSt → Option (List Int × RSt)
  | 0, _, _ => none
  | n + 1, out, s => if (out.length : Int) < many ∧ s.er = 0 then (symS F S b s).bind fun r =>
      if r.1 = 16 then
        (if (wantS r.2 (decide (0 < out.length)) 3).er ≠ 0 then some ([], wantS r.2 (decide (0 < out.length)) 3)
        else if 0 < out.length ∧ out.length ≤ 1000000000 then (takeS b (wantS r.2 (decide (0 < out.length)) 3) 2).bind fun t => rowP many (rowL F S b many n) out (rd out ((out.length : Int) - 1)) (wrap64 (3 + t.1)) t.2 else none)
      else if r.1 = 17 then (takeS b r.2 3).bind fun t => rowP many (rowL F S b many n) out 0 (wrap64 (3 + t.1)) t.2
      else if r.1 = 18 then (takeS b r.2 7).bind fun t => rowP many (rowL F S b many n) out 0 (wrap64 (11 + t.1)) t.2
      else rowP many (rowL F S b many n) out r.1 1 r.2
    else some (out, s)
set_option maxHeartbeats 8000000 in
set_option maxRecDepth 100000 in
theorem rdr_row (g : Nat) (b : List Int) (most : Int) (s : RSt) (A1 : Option Addr) (c1 : Nat) (own : List Int) (many : Int) (N : Nat) (rr : List Int) (sr : RSt) (w0 w : World) (hR : Rdr w0 w g b most s) (hB : Below w0.heap.size w0 w)
    (hr1 : Kd.C (Kd.int .i64) w A1 own.length own) (hc1 : own.length ≤ c1) (hx : ∀ x ∈ own, 0 ≤ x ∧ x ≤ 15) (hl : own.length ≤ 1000000)
    (h : rowL (fun n => (openF own n : Int)) (symsTo own own.length) b many N [] s = some (rr, sr)) :
    Calls Try.prog 66 #[.pointer (some ⟨g, 0, none⟩), .slice A1 own.length c1, .int .i64 many] w fun r w' => ∃ v, r = .returned v ∧ Kd.R (Kd.int .i64) 3 w' w0.heap.size (fun _ => True) v rr ∧ Rdr w0 w' g b most sr ∧ Below w0.heap.size w0 w' ∧ KeepT w w' := by
  have H := Aside0.mk h
  have HR := Aside0.mk hR
  have HB := Aside0.mk hB
  go_enter Try.func66, Try.ntmps66
  go_wp2_with fail
  refine (open_book A1 c1 own w hr1 hc1 hx hl).mono ?_
  rintro e wK ⟨gbk, rfl, hbook, hb⟩
  generalize (fun n => (openF own n : Int)) = F at H hbook
  generalize symsTo own own.length = S at H hbook
  have HBook := Aside0.mk hbook
  have HRk := Aside0.mk (HR.out.below hb)
  have HBk := Aside0.mk (show Below w0.heap.size w0 wK from below_then HB.out HB.out.size hb)
  have HKk := Aside0.mk (KeepT.of_below hb)
  clear hbook hb HR HB hR hB hr1 hx h
  go_wp2_with fail
  go_loopg [8] N (fun kq v8 w' => ∃ (oi : List Int) (si : RSt), Aside0 (rowL F S b many kq oi si = some (rr, sr)) ∧ Aside0 (Kd.R (Kd.int .i64) 3 w' w0.heap.size (fun k => wK.heap.size ≤ k) v8 oi) ∧ Aside0 (Rdr w0 w' g b most si) ∧ Aside0 (Below w0.heap.size w0 w') ∧ Aside0 (KeepT wK w'))
  case atStart => exact ⟨[], s, H, ⟨Kd.R_nil _ _ _ _ _⟩, HRk, HBk, ⟨KeepT.refl _⟩⟩
  case round =>
    clear H HRk HBk
    obtain ⟨oi, si, HL, HO, HR, HB, HK⟩ := hrel
    obtain ⟨A8, c8, e8⟩ := Kd.R_slice HO.out
    subst e8
    have h := HL.out
    match gk, h with
    | 0, h => unfold rowL at h; cases h
    | n + 1, h =>
      unfold rowL at h
      obtain ⟨A0, c0, A3, c3, hg, hge, hb, hc, ho⟩ := HR.out.cells
      have hcz5 : wr.cell? ⟨g, 5, none⟩ = some (.int .i64 si.er) := (blk_cell hg 5).trans rfl
      clear hg hb ho hc
      by_cases hgo : (oi.length : Int) < many ∧ si.er = 0
      rotate_left
      · rw [if_neg hgo] at h
        injection h with h
        injection h with h1 h2
        subst h1 h2
        by_cases hlen : (oi.length : Int) < many
        · have d0 : decide ((oi.length : Int) < many) = true := decide_eq_true hlen
          have d1 : (si.er == 0) = false := beq_eq_false_iff_ne.2 (fun hh => hgo ⟨hlen, hh⟩)
          go_wp2_with fail
          go_ret
          exact ⟨_, rfl, Kd.R_mono HO.out (fun _ _ => trivial), HR.out, HB.out, HKk.out.trans HK.out⟩
        · have d0 : decide ((oi.length : Int) < many) = false := decide_eq_false hlen
          go_wp2_with fail
          go_ret
          exact ⟨_, rfl, Kd.R_mono HO.out (fun _ _ => trivial), HR.out, HB.out, HKk.out.trans HK.out⟩
      rw [if_pos hgo] at h
      have d0 : decide ((oi.length : Int) < many) = true := decide_eq_true hgo.1
      have d1 : (si.er == 0) = true := beq_iff_eq.2 hgo.2
      obtain ⟨⟨y, s1⟩, hs, h⟩ := Option.bind_eq_some_iff.1 h
      have HS := Aside0.mk hs
      have H1 := Aside0.mk h
      clear hs h HL hgo
      go_wp2_with fail
      refine (rdr_sym g b most si w.heap.size gbk F S y s1 w0 wr HR.out HB.out (HBook.out.keepT HK.out) HS.out).mono ?_
      rintro e w1 ⟨rfl, hR1, hB1, hK1⟩
      have HR1 := Aside0.mk hR1
      have HB1 := Aside0.mk hB1
      have HO1 := Aside0.mk (introw_keepT' HO.out hK1)
      have HK1 := Aside0.mk (HK.out.trans hK1)
      clear hR1 hB1 hK1 HR HB HK HO hcz5 d0 d1
      go_upto_block 2 with fail
      go_cut [9, 10, 11, 29] (fun v9 v10 v11 v29 wc => ∃ (v c : Int) (s4 : RSt), v10 = .int .i64 v ∧ v11 = .int .i64 c ∧ Aside0 (rowP many (rowL F S b many n) oi v c s4 = some (rr, sr)) ∧ Aside0 (Kd.R (Kd.int .i64) 3 wc w0.heap.size (fun k => wK.heap.size ≤ k) (.slice A8 oi.length c8) oi) ∧ Aside0 (Rdr w0 wc g b most s4) ∧ Aside0 (Below w0.heap.size w0 wc) ∧ Aside0 (KeepT wK wc))
      case first =>
        have h := H1.out
        by_cases h16 : y = 16
        · have d3 : (y == 16) = true := beq_iff_eq.2 h16
          rw [if_pos h16] at h
          obtain ⟨s2, hs2⟩ : ∃ s2, wantS s1 (decide (0 < oi.length)) 3 = s2 := ⟨_, rfl⟩
          rw [hs2] at h
          have HS2 := Aside0.mk hs2
          have hdec : decide ((0 : Int) < (oi.length : Int)) = decide (0 < oi.length) := by
            by_cases h0 : 0 < oi.length
            · rw [decide_eq_true h0, decide_eq_true (by omega)]
            · rw [decide_eq_false h0, decide_eq_false (by omega)]
          clear hs2 H1
          have HH := Aside0.mk h
          clear h
          go_wp2_with fail
          have hcall := rdr_want' g b most s1 (decide (0 < oi.length)) 3 s2 w0 w1 HS2.out HR1.out HB1.out
          first
            | refine hcall.mono ?_
            | (rw [← hdec] at hcall; refine hcall.mono ?_)
          rintro e w2 ⟨rfl, hR2, hB2, hK2, _⟩
          have HR2 := Aside0.mk hR2
          have HB2 := Aside0.mk hB2
          have HO2 := Aside0.mk (introw_keepT' HO1.out hK2)
          have HK2 := Aside0.mk (HK1.out.trans hK2)
          clear hR2 hB2 hK2 HR1 HB1 HK1 HO1 hcall hdec
          have h := HH.out
          by_cases h0 : s2.er = 0
          rotate_left
          · have d4 : (s2.er == 0) = false := beq_eq_false_iff_ne.2 h0
            rw [if_pos h0] at h
            injection h with h
            injection h with h1 h2
            subst h1 h2
            go_wp2_with fail
            go_ret
            exact ⟨_, rfl, Kd.R_nil _ _ _ _ _, HR2.out, HB2.out, HKk.out.trans HK2.out⟩
          have d4 : (s2.er == 0) = true := beq_iff_eq.2 h0
          rw [if_neg (by rw [h0]; simp)] at h
          by_cases hlo : 0 < oi.length ∧ oi.length ≤ 1000000000
          rotate_left
          · rw [if_neg hlo] at h; cases h
          rw [if_pos hlo] at h
          obtain ⟨⟨v3, s3⟩, ht, h⟩ := Option.bind_eq_some_iff.1 h
          have HT := Aside0.mk ht
          obtain ⟨k, hk⟩ : ∃ k, oi.length = k + 1 := ⟨oi.length - 1, by omega⟩
          have hke : (oi.length : Int) - 1 = (k : Int) := by omega
          have hk0 : (0 : Int) ≤ (k : Int) := by omega
          have hk1 : (k : Int) < (oi.length : Int) := by omega
          rw [hke] at h
          obtain ⟨ad, e8, hcell⟩ := Kd.at_int (Kd.R_reads' HO2.out).2.2 (k : Int) hk0 hk1
          subst e8
          rw [Int.toNat_natCast] at hcell
          have hw1 : IntKind.i64.wrap ((oi.length : Int) - 1) = (k : Int) := by rw [hke]; exact IntWalk.i64_in (k : Int) (by omega)
          have hw2 : wrap64 ((oi.length : Int) - 1) = (k : Int) := by rw [hke]; unfold wrap64; omega
          have hk2 : ((k : Int)).toNat = k := Int.toNat_natCast k
          obtain ⟨x, hx⟩ : ∃ x, rd oi (k : Int) = x := ⟨_, rfl⟩
          rw [hx] at hcell h
          have HX := Aside0.mk hx
          have HP := Aside0.mk h
          clear ht h HH hke hlo h0 hk hx
          go_upto_region 10 with fail
          refine start_ (n := 11) (S := fun w' => w'.cell? (ad.add k) = some (.int .i64 x)) (ds := []) #[false, false, false, false, false, false, false, false, false, false, false] (by kernel_rfl) rfl rfl (hcell) (fun hHeld => ?_)
          refine pure_ (i := 0) (N := some 38) (v := ?_) (a' := ?_) #[true, false, false, false, false, false, false, false, false, false, false] rfl rfl (by kernel_rfl) (fun _ _ _ h => h) (Or.inl ⟨by rfl, ?_⟩) ?_ ?_
          rotate_left
          · intro w'
            go_simp
            with_reducible rfl
          rotate_left
          · simp only [Act.put, List.setIfInBounds_toArray, List.set_cons_zero, List.set_cons_succ, i64_w, i32_w]
            rfl
          refine pure_ (i := 1) (N := some 39) (v := ?_) (a' := ?_) #[true, true, false, false, false, false, false, false, false, false, false] rfl rfl (by kernel_rfl) (fun _ _ _ h => h) (Or.inl ⟨by rfl, ?_⟩) ?_ ?_
          rotate_left
          · intro w'
            go_simp
            with_reducible rfl
          rotate_left
          · simp only [Act.put, List.setIfInBounds_toArray, List.set_cons_zero, List.set_cons_succ, i64_w, i32_w]
            rfl
          refine pure_ (i := 2) (N := some 40) (v := ?_) (a' := ?_) #[true, true, true, false, false, false, false, false, false, false, false] rfl rfl (by kernel_rfl) (fun _ _ _ h => h) (Or.inl ⟨by rfl, ?_⟩) ?_ ?_
          rotate_left
          · intro w'
            go_simp
            with_reducible rfl
          rotate_left
          · simp only [Act.put, List.setIfInBounds_toArray, List.set_cons_zero, List.set_cons_succ, i64_w, i32_w]
            rfl
          refine pure_ (i := 3) (N := some 41) (v := ?_) (a' := ?_) #[true, true, true, true, false, false, false, false, false, false, false] rfl rfl (by kernel_rfl) (fun _ _ _ h => h) (Or.inl ⟨by rfl, ?_⟩) ?_ ?_
          rotate_left
          · intro w'
            go_simp
            with_reducible rfl
          rotate_left
          · simp only [Act.put, List.setIfInBounds_toArray, List.set_cons_zero, List.set_cons_succ, i64_w, i32_w]
            rfl
          refine pure_ (i := 4) (N := some 42) (v := ?_) (a' := ?_) #[true, true, true, true, true, false, false, false, false, false, false] rfl rfl (by kernel_rfl) (fun _ _ _ h => h) (Or.inl ⟨by rfl, ?_⟩) ?_ ?_
          rotate_left
          · intro w'
            go_simp
            with_reducible rfl
          rotate_left
          · simp only [Act.put, List.setIfInBounds_toArray, List.set_cons_zero, List.set_cons_succ, i64_w, i32_w]
            rfl
          refine pure_ (i := 6) (N := some 44) (v := ?_) (a' := ?_) #[true, true, true, true, true, false, true, false, false, false, false] rfl rfl (by kernel_rfl) (fun _ _ _ h => h) (Or.inl ⟨by rfl, ?_⟩) ?_ ?_
          rotate_left
          · intro w'
            go_simp
            with_reducible rfl
          rotate_left
          · simp only [Act.put, List.setIfInBounds_toArray, List.set_cons_zero, List.set_cons_succ, i64_w, i32_w]
            rfl
          refine take_ (i := 5) (N := some 43) (v := ?_) (a' := ?_) #[true, true, true, true, true, true, true, false, false, false, false] rfl rfl (by kernel_rfl) (fun _ _ _ h => h) (Or.inl ⟨by rfl, ?_⟩) hHeld ?_ ?_
          rotate_left
          · intro w' s0
            go_simp
            with_reducible rfl
          rotate_left
          · simp only [Act.put, List.setIfInBounds_toArray, List.set_cons_zero, List.set_cons_succ, i64_w, i32_w]
            rfl
          refine one_ (i := 7) (N := some 45) #[true, true, true, true, true, true, true, true, false, false, false] rfl rfl (by kernel_rfl) (by decide) (fun K hK => ?_)
          refine goes_ Try.func43 (by kernel_rfl) rfl #[.pointer (some ⟨g, 0, none⟩), .int .i64 2] (by rfl) rfl rfl (by simp only [List.map_toArray, List.map_cons, List.map_nil]; rfl) ?_
          with_reducible refine (rdr_take g b most s2 2 v3 s3 w0 w2.drew (HR2.out.below (Below.refl _ _).drew) HB2.out.drew HT.out).mono ?_
          rintro e w3 ⟨rfl, hR3, hB3, hK3⟩
          refine ⟨_, rfl, ?_⟩
          have hK3 := (KeepT.of_below (Below.refl _ w2).drew).trans hK3
          have HR3 := Aside0.mk hR3
          have HB3 := Aside0.mk hB3
          have HO3 := Aside0.mk (introw_keepT' HO2.out hK3)
          have HK3 := Aside0.mk (HK2.out.trans hK3)
          obtain ⟨ad3, ea3, hcell3⟩ := Kd.at_int (Kd.R_reads' HO3.out).2.2 (k : Int) hk0 hk1
          cases ea3
          rw [Int.toNat_natCast, HX.out] at hcell3
          clear hR3 hB3 hK3
          refine hK.out _ _ (hcell3) (fun hHeld => ?_)
          clear hK K
          refine norm_ (a' := ?_) ?_ ?_
          rotate_left
          · show Act.put _ (some 45) _ = _
            simp only [Act.put, List.setIfInBounds_toArray, List.set_cons_zero, List.set_cons_succ, i64_w, i32_w]
            rfl
          refine pure_ (i := 8) (N := some 46) (v := ?_) (a' := ?_) #[true, true, true, true, true, true, true, true, true, false, false] rfl rfl (by kernel_rfl) (fun _ _ _ h => h) (Or.inl ⟨by rfl, ?_⟩) ?_ ?_
          rotate_left
          · intro w'
            go_simp
            with_reducible rfl
          rotate_left
          · simp only [Act.put, List.setIfInBounds_toArray, List.set_cons_zero, List.set_cons_succ, i64_w, i32_w]
            rfl
          refine pure_ (i := 9) (N := some 10) (v := ?_) (a' := ?_) #[true, true, true, true, true, true, true, true, true, true, false] rfl rfl (by kernel_rfl) (fun _ _ _ h => h) (Or.inl ⟨by rfl, ?_⟩) ?_ ?_
          rotate_left
          · intro w'
            go_simp
            with_reducible rfl
          rotate_left
          · simp only [Act.put, List.setIfInBounds_toArray, List.set_cons_zero, List.set_cons_succ, i64_w, i32_w]
            rfl
          refine pure_ (i := 10) (N := some 11) (v := ?_) (a' := ?_) #[true, true, true, true, true, true, true, true, true, true, true] rfl rfl (by kernel_rfl) (fun _ _ _ h => h) (Or.inl ⟨by rfl, ?_⟩) ?_ ?_
          rotate_left
          · intro w'
            go_simp
            with_reducible rfl
          rotate_left
          · simp only [Act.put, List.setIfInBounds_toArray, List.set_cons_zero, List.set_cons_succ, i64_w, i32_w]
            rfl
          refine done_ (by kernel_rfl) ?_
          clear hw1 hw2 hk0 hk1 hk2 hcell hcell3
          go_wp2_with fail
          go_meet
          case rel => exact ⟨x, _, s3, rfl, rfl, HP, HO3, HR3, HB3, HK3⟩
        rw [if_neg h16] at h
        have d3 : (y == 16) = false := beq_eq_false_iff_ne.2 h16
        by_cases h17 : y = 17
        · have d4 : (y == 17) = true := beq_iff_eq.2 h17
          rw [if_pos h17] at h
          obtain ⟨⟨v3, s3⟩, ht, h⟩ := Option.bind_eq_some_iff.1 h
          have HT := Aside0.mk ht
          have HP := Aside0.mk h
          clear ht h H1
          go_wp2_with fail
          refine (rdr_take g b most s1 3 v3 s3 w0 w1 HR1.out HB1.out HT.out).mono ?_
          rintro e w2 ⟨rfl, hR2, hB2, hK2⟩
          have HR2 := Aside0.mk hR2
          have HB2 := Aside0.mk hB2
          have HO2 := Aside0.mk (introw_keepT' HO1.out hK2)
          have HK2 := Aside0.mk (HK1.out.trans hK2)
          clear hR2 hB2 hK2 HR1 HB1 HK1 HO1
          go_wp2_with fail
          go_meet
          case rel => exact ⟨0, _, s3, rfl, rfl, HP, HO2, HR2, HB2, HK2⟩
        rw [if_neg h17] at h
        have d4 : (y == 17) = false := beq_eq_false_iff_ne.2 h17
        by_cases h18 : y = 18
        · have d5 : (y == 18) = true := beq_iff_eq.2 h18
          rw [if_pos h18] at h
          obtain ⟨⟨v3, s3⟩, ht, h⟩ := Option.bind_eq_some_iff.1 h
          have HT := Aside0.mk ht
          have HP := Aside0.mk h
          clear ht h H1
          go_wp2_with fail
          refine (rdr_take g b most s1 7 v3 s3 w0 w1 HR1.out HB1.out HT.out).mono ?_
          rintro e w2 ⟨rfl, hR2, hB2, hK2⟩
          have HR2 := Aside0.mk hR2
          have HB2 := Aside0.mk hB2
          have HO2 := Aside0.mk (introw_keepT' HO1.out hK2)
          have HK2 := Aside0.mk (HK1.out.trans hK2)
          clear hR2 hB2 hK2 HR1 HB1 HK1 HO1
          go_wp2_with fail
          go_meet
          case rel => exact ⟨0, _, s3, rfl, rfl, HP, HO2, HR2, HB2, HK2⟩
        rw [if_neg h18] at h
        have d5 : (y == 18) = false := beq_eq_false_iff_ne.2 h18
        have HP := Aside0.mk h
        clear h H1
        go_wp2_with fail
        go_meet
        case rel => exact ⟨y, 1, s1, rfl, rfl, HP, HO1, HR1, HB1, HK1⟩
      case rest =>
        clear H1 HR1 HB1 HK1 HO1
        obtain ⟨v, c, s4, rfl, rfl, HP, HO, HR, HB, HK⟩ := hcut
        have h := HP.out
        unfold rowP at h
        by_cases hr : 0 ≤ c ∧ c ≤ 1000000 ∧ oi.length ≤ 1000000000
        rotate_left
        · rw [if_neg hr] at h; cases h
        rw [if_pos hr] at h
        obtain ⟨m, rfl⟩ : ∃ m : Nat, c = (m : Int) := ⟨c.toNat, by omega⟩
        rw [Int.toNat_natCast] at h
        have hm : m ≤ 1000000 := by omega
        have HOL := Aside0.mk hr.2.2
        have HL := Aside0.mk h
        clear h HP hr
        go_wp2_with fail
        refine (rdr_want g b most s4 (decide ((m : Int) ≤ wrap64 (many - oi.length))) 3 w0 wc HR.out HB.out).mono ?_
        rintro e w5 ⟨rfl, hR5, hB5, hK5⟩
        have HR5 := Aside0.mk hR5
        have HB5 := Aside0.mk hB5
        have HO5 := Aside0.mk (introw_keepT' HO.out hK5)
        have HK5 := Aside0.mk (HK.out.trans hK5)
        clear hR5 hB5 hK5 HR HB HK HO
        generalize wantS s4 (decide ((m : Int) ≤ wrap64 (many - oi.length))) 3 = s5 at HL HR5 ⊢
        go_wp2_with fail
        go_loopg [8, 66] m (fun kq v8 v66 w' => ∃ (i : Nat) (oj : List Int), v66 = .int .i64 i ∧ i ≤ m ∧ Aside0 (kq + i = m) ∧ Aside0 (oj = oi ++ List.replicate i v) ∧ Aside0 (Kd.R (Kd.int .i64) 3 w' w0.heap.size (fun k => wK.heap.size ≤ k) v8 oj) ∧ Aside0 (Rdr w0 w' g b most s5) ∧ Aside0 (Below w0.heap.size w0 w') ∧ Aside0 (KeepT wK w'))
        case atStart => exact ⟨0, oi, rfl, Nat.zero_le _, ⟨rfl⟩, ⟨by simp⟩, HO5, HR5, HB5, HK5⟩
        case round =>
          clear HO5 HR5 HB5 HK5
          obtain ⟨i, oj, rfl, hi, HG, HJ, HO, HR, HB, HK⟩ := hrel
          obtain ⟨A9, c9, e9⟩ := Kd.R_slice HO.out
          subst e9
          by_cases hlt : i < m
          · have HJL := Aside0.mk (show oj.length ≤ 1001000000 from by have := HOL.out; rw [HJ.out, List.length_append, List.length_replicate]; omega)
            go_wp2_with ((with_reducible refine gate_builtin (b := .append) (xs := #[.tmp 68, .tmp 70]) rfl ?_); at_builtin; refine Kd.R_append (Kd.int .i64) (w0 := w0) w0.heap.size rfl (.tmp 68) (.tmp 70) 73 3 (.int .i64 0) 8 rfl Try.underlying73 info3 rfl (by decide) (by omega) (.slice A9 oj.length c9) oj v [.int .i64 v] (fun k => wK.heap.size ≤ k) (fun _ => False) rfl rfl rfl (fun _ hk => hk.elim) (fun k hk => Nat.le_trans HK.out.1 hk) HO.out HB.out HB.out.size (by have := HJL.out; omega) ?_; intro v5 w6 ho hb hg hat; (have HN5 := Aside0.mk (And.intro ho (And.intro hb hg))); clear ho hb hg hat)
            obtain ⟨ho, hb, hgr⟩ := HN5.out
            have hty := own_typed (Kd.own_of_R HO.out)
            go_roundg (gk - 1)
            case measure => have := HG.out; omega
            case rel => exact ⟨i + 1, _, by go_num, by omega, ⟨by have := HG.out; omega⟩, ⟨by rw [HJ.out, List.replicate_succ', List.append_assoc]⟩, ⟨ho⟩, ⟨HR.out.grown hgr fun p hp => hty p hp⟩, ⟨hb⟩, ⟨HK.out.grown_fresh hgr fun p hp => HO.out.1 p hp⟩⟩
          · have hi2 : i = m := by omega
            subst hi2
            have hj := HJ.out
            subst hj
            go_wp2_with fail
            go_roundg n
            case measure => omega
            case rel => exact ⟨_, _, HL, ⟨by have hh := HO.out; rw [List.length_append, List.length_replicate] at hh; exact hh⟩, HR, HB, HK⟩

-- PART
end Go.Proofs.Ytcjijhjdkgjgeaa.P
namespace Go.Proofs.Ytcjijhjdkgjgeaa.P
open Go.RowKit Go.Proofs.YtcjijhjdkgjgeaaW.PrintWords Go.Proofs.YtcjijhjdkgjgeaaW.PrintLast Go.Proofs.YtcjijhjdkgjgeaaW.PrintMore
attribute [local go_sem] max2_int min2_int max_two min_two max_three min_three max_four min_four   -- for this text's walks alone
set_option linter.unusedVariables false
set_option linter.unusedSimpArgs false

-- PART
/-! ### grow_reader_dynamic: function 47 (by hand) -/
/-- A block of lengths of its own: behind the row of lengths. -/
def dynC (b : List Int) (most : Int) (M : Nat) (row : List Int) (nl : Int) (s : RSt) : Option RSt :=
  if s.er ≠ 0 then some s else if 257 ≤ nl ∧ nl ≤ row.length ∧ row.length ≤ 1000 then
    (canon_Check.f (row.take nl.toNat)).bind fun e1 => (canon_Check.f (row.drop nl.toNat)).bind fun e2 =>
      if (wantS s ((e1 == 0) && (e2 == 0) && decide (0 < rd (row.take nl.toNat) 256)) 3).er ≠ 0 then some (wantS s ((e1 == 0) && (e2 == 0) && decide (0 < rd (row.take nl.toNat) 256)) 3)
      else codedL (fun n => (openF (row.take nl.toNat) n : Int)) (symsTo (row.take nl.toNat) (row.take nl.toNat).length) (fun n => (openF (row.drop nl.toNat) n : Int)) (symsTo (row.drop nl.toNat) (row.drop nl.toNat).length) b most M (wantS s ((e1 == 0) && (e2 == 0) && decide (0 < rd (row.take nl.toNat) 256)) 3)
  else none
def dynB (b : List Int) (most : Int) (N M : Nat) (own : List Int) (nl nd : Int) (s : RSt) : Option RSt :=
  if s.er ≠ 0 then some s else if rightB own = true then (rowL (fun n => (openF own n : Int)) (symsTo own own.length) b (wrap64 (nl + nd)) N [] s).bind fun r => dynC b most M r.1 nl r.2 else none
def dynA (b : List Int) (most : Int) (N M : Nat) (nl nd m : Int) (s : RSt) : Option RSt :=
  if s.er ≠ 0 then some s else (ownS b s m).bind fun o => dynB b most N M o.1 nl nd o.2
def dynS (b : List Int) (most : Int) (N M : Nat) (s : RSt) : Option RSt :=
  (takeS b s 5).bind fun r1 => (takeS b r1.2 5).bind fun r2 => (takeS b r2.2 4).bind fun r3 =>
    dynA b most N M (wrap64 (257 + r1.1)) (wrap64 (1 + r2.1)) (wrap64 (4 + r3.1)) (wantS r3.2 (decide (wrap64 (257 + r1.1) ≤ 286) && decide (wrap64 (1 + r2.1) ≤ 30)) 3)
set_option maxHeartbeats 8000000 in
set_option maxRecDepth 100000 in
theorem rdr_dynamic (g : Nat) (b : List Int) (most : Int) (N M : Nat) (s sr : RSt) (w0 w : World) (hR : Rdr w0 w g b most s) (hB : Below w0.heap.size w0 w) (h : dynS b most N M s = some sr) :
    Calls Try.prog 47 #[.pointer (some ⟨g, 0, none⟩)] w fun r w' => r = .returned (.tuple #[]) ∧ Rdr w0 w' g b most sr ∧ Below w0.heap.size w0 w' ∧ KeepT w w' := by
  unfold dynS at h
  obtain ⟨⟨v1, s1⟩, ha, h⟩ := Option.bind_eq_some_iff.1 h
  obtain ⟨⟨v2, s2⟩, hb, h⟩ := Option.bind_eq_some_iff.1 h
  obtain ⟨⟨v3, s3⟩, hc, h⟩ := Option.bind_eq_some_iff.1 h
  have H := Aside0.mk h
  have HA := Aside0.mk ha
  have HBb := Aside0.mk hb
  have HC := Aside0.mk hc
  clear h ha hb hc
  go_enter Try.func47, Try.ntmps47
  go_wp2_with fail
  refine (rdr_take g b most s 5 v1 s1 w0 w hR hB HA.out).mono ?_
  rintro e w1 ⟨rfl, hR1, hB1, hK1⟩
  have HR1 := Aside0.mk hR1
  have HB1 := Aside0.mk hB1
  have HK1 := Aside0.mk hK1
  clear hR1 hB1 hK1 hR hB
  go_wp2_with fail
  refine (rdr_take g b most s1 5 v2 s2 w0 w1 HR1.out HB1.out HBb.out).mono ?_
  rintro e w2 ⟨rfl, hR2, hB2, hK2⟩
  have HR2 := Aside0.mk hR2
  have HB2 := Aside0.mk hB2
  have HK2 := Aside0.mk (HK1.out.trans hK2)
  clear hR2 hB2 hK2 HR1 HB1 HK1
  go_wp2_with fail
  refine (rdr_take g b most s2 4 v3 s3 w0 w2 HR2.out HB2.out HC.out).mono ?_
  rintro e w3 ⟨rfl, hR3, hB3, hK3⟩
  have HR3 := Aside0.mk hR3
  have HB3 := Aside0.mk hB3
  have HK3 := Aside0.mk (HK2.out.trans hK3)
  clear hR3 hB3 hK3 HR2 HB2 HK2 HA HBb HC
  go_upto_region 1 with fail
  generalize wrap64 (257 + v1) = nl at H ⊢
  generalize wrap64 (1 + v2) = nd at H ⊢
  generalize wrap64 (4 + v3) = m at H ⊢
  obtain ⟨q, hq⟩ : ∃ q, (decide (nl ≤ 286) && decide (nd ≤ 30)) = q := ⟨_, rfl⟩
  rw [hq] at H
  obtain ⟨s4, hs4⟩ : ∃ s4, wantS s3 q 3 = s4 := ⟨_, rfl⟩
  rw [hs4] at H
  have HS4 := Aside0.mk hs4
  clear hs4
  have HQ := Aside0.mk hq
  go_cut [21, 22, 23, 24, 26] (fun v21 v22 v23 v24 v26 wc => v26 = .bool (!(s4.er == 0)) ∧ Aside0 (Rdr w0 wc g b most s4) ∧ Aside0 (Below w0.heap.size w0 wc) ∧ Aside0 (KeepT w wc))
  case first =>
    clear H
    by_cases h1 : nl ≤ 286
    · have d1 : decide (nl ≤ 286) = true := decide_eq_true h1
      rw [d1, Bool.true_and] at hq
      go_wp2_with fail
      refine (rdr_want' g b most s3 q 3 s4 w0 w3 HS4.out HR3.out HB3.out).mono ?_
      rintro e w4 ⟨rfl, hR4, hB4, hK4, _⟩
      have HR4 := Aside0.mk hR4
      have HB4 := Aside0.mk hB4
      have HK4 := Aside0.mk (HK3.out.trans hK4)
      clear hR4 hB4 hK4
      (try clear hq)
      go_wp2_with fail
      go_meet
      case rel => exact ⟨rfl, HR4, HB4, HK4⟩
    · have d1 : decide (nl ≤ 286) = false := decide_eq_false h1
      rw [d1, Bool.false_and] at hq
      clear HQ
      subst hq
      go_wp2_with fail
      refine (rdr_want' g b most s3 false 3 s4 w0 w3 HS4.out HR3.out HB3.out).mono ?_
      rintro e w4 ⟨rfl, hR4, hB4, hK4, _⟩
      have HR4 := Aside0.mk hR4
      have HB4 := Aside0.mk hB4
      have HK4 := Aside0.mk (HK3.out.trans hK4)
      clear hR4 hB4 hK4
      (try clear hq)
      go_wp2_with fail
      go_meet
      case rel => exact ⟨rfl, HR4, HB4, HK4⟩
  case rest =>
    clear HR3 HB3 HK3 hq HQ HS4
    obtain ⟨rfl, HR, HB, HK⟩ := hcut
    have h := H.out
    unfold dynA at h
    by_cases h0 : s4.er = 0
    rotate_left
    · have d0 : (s4.er == 0) = false := beq_eq_false_iff_ne.2 h0
      rw [if_pos h0] at h
      injection h with h
      subst h
      simp only [d0, Bool.not_false]
      go_wp2_with fail
      ((try simp only [Exit.inBlock, Exit.then]); refine bodyPost_ret (results_none rfl _ _ _) rfl ?_)
      exact ⟨rfl, HR.out, HB.out, HK.out⟩
    have d0 : (s4.er == 0) = true := beq_iff_eq.2 h0
    rw [if_neg (by rw [h0]; simp)] at h
    obtain ⟨⟨own, s5⟩, ho, h⟩ := Option.bind_eq_some_iff.1 h
    have HOwn := Aside0.mk ho
    have H5 := Aside0.mk h
    clear h ho H h0
    simp only [d0, Bool.not_true]
    go_wp2_with fail
    refine (rdr_own g b most s4 m own s5 w0 wc HR.out HB.out HOwn.out).mono ?_
    rintro e w5 ⟨vo, rfl, hO5, hR5, hB5, hK5⟩
    obtain ⟨Ao, co, eo⟩ := Kd.R_slice hO5
    subst eo
    have HO5 := Aside0.mk hO5
    have HR5 := Aside0.mk hR5
    have HB5 := Aside0.mk hB5
    have HK5 := Aside0.mk (HK.out.trans hK5)
    clear hO5 hR5 hB5 hK5 HR HB HK d0
    obtain ⟨A0, c0, A3, c3, hg, hge, hb, hc, ho⟩ := HR5.out.cells
    have hcz5 : w5.cell? ⟨g, 5, none⟩ = some (.int .i64 s5.er) := (blk_cell hg 5).trans rfl
    clear hg hb ho hc
    have h := H5.out
    unfold dynB at h
    by_cases h0 : s5.er = 0
    rotate_left
    · have d0 : (s5.er != 0) = true := bne_iff_ne.2 h0
      rw [if_pos h0] at h
      injection h with h
      subst h
      go_wp2_with fail
      ((try simp only [Exit.inBlock, Exit.then]); refine bodyPost_ret (results_none rfl _ _ _) rfl ?_)
      exact ⟨rfl, HR5.out, HB5.out, HK5.out⟩
    have d0 : (s5.er != 0) = false := by rw [h0]; rfl
    rw [if_neg (by rw [h0]; simp)] at h
    by_cases hrb : rightB own = true
    rotate_left
    · rw [if_neg hrb] at h; cases h
    rw [if_pos hrb] at h
    obtain ⟨hl300, hx15⟩ := (rightB_iff own).1 hrb
    obtain ⟨⟨row, s6⟩, hrow, h⟩ := Option.bind_eq_some_iff.1 h
    have HRow := Aside0.mk hrow
    have H6 := Aside0.mk h
    have HX15 := Aside0.mk hx15
    clear h hrow H5 h0 hrb hx15
    go_wp2_with fail
    refine (rdr_row g b most s5 Ao co own (wrap64 (nl + nd)) N row s6 w0 w5 HR5.out HB5.out (Kd.R_reads' HO5.out).2.2 (Kd.R_reads' HO5.out).2.1 HX15.out (by omega) HRow.out).mono ?_
    rintro e w6 ⟨vr, rfl, hO6, hR6, hB6, hK6⟩
    obtain ⟨Ar, cr, er⟩ := Kd.R_slice hO6
    subst er
    have HO6 := Aside0.mk hO6
    have HR6 := Aside0.mk hR6
    have HB6 := Aside0.mk hB6
    have HK6 := Aside0.mk (HK5.out.trans hK6)
    clear hO6 hR6 hB6 hK6 HR5 HB5 HK5 HO5 d0 hcz5
    obtain ⟨A0', c0', A3', c3', hg, hge', hb, hc, ho⟩ := HR6.out.cells
    have hcz6 : w6.cell? ⟨g, 5, none⟩ = some (.int .i64 s6.er) := (blk_cell hg 5).trans rfl
    clear hg hb ho hc
    have h := H6.out
    unfold dynC at h
    by_cases h0 : s6.er = 0
    rotate_left
    · have d0 : (s6.er != 0) = true := bne_iff_ne.2 h0
      rw [if_pos h0] at h
      injection h with h
      subst h
      go_wp2_with fail
      ((try simp only [Exit.inBlock, Exit.then]); refine bodyPost_ret (results_none rfl _ _ _) rfl ?_)
      exact ⟨rfl, HR6.out, HB6.out, HK6.out⟩
    have d0 : (s6.er != 0) = false := by rw [h0]; rfl
    rw [if_neg (by rw [h0]; simp)] at h
    by_cases hn : 257 ≤ nl ∧ nl ≤ row.length ∧ row.length ≤ 1000
    rotate_left
    · rw [if_neg hn] at h; cases h
    rw [if_pos hn] at h
    obtain ⟨p, rfl⟩ : ∃ p : Nat, nl = (p : Int) := ⟨nl.toNat, by omega⟩
    rw [Int.toNat_natCast] at h
    have HH := Aside0.mk h
    have HN := Aside0.mk (show 257 ≤ p ∧ p ≤ row.length ∧ row.length ≤ 1000 from by omega)
    have hp1 : (p : Int) ≤ (row.length : Int) := by omega
    have hp0 : (0 : Int) ≤ (p : Int) := by omega
    have hcr : (row.length : Int) ≤ (cr : Int) := by have := (Kd.R_reads' HO6.out).2.1; omega
    have hcp : (p : Int) ≤ (cr : Int) := by omega
    clear h hn H6
    go_upto_region 6 with fail
    refine start_ (n := 8) (S := fun w' => True) (ds := []) #[false, false, false, false, false, false, false, false] (by kernel_rfl) rfl rfl trivial (fun hHeld => ?_)
    refine pure_ (i := 0) (N := some 46) (v := ?_) (a' := ?_) #[true, false, false, false, false, false, false, false] rfl rfl (by kernel_rfl) (fun _ _ _ h => h) (Or.inl ⟨by rfl, ?_⟩) ?_ ?_
    rotate_left
    · intro w'
      go_simp
      with_reducible rfl
    rotate_left
    · simp only [Act.put, List.setIfInBounds_toArray, List.set_cons_zero, List.set_cons_succ, i64_w, i32_w]
      rfl
    refine pure_ (i := 1) (N := some 47) (v := ?_) (a' := ?_) #[true, true, false, false, false, false, false, false] rfl rfl (by kernel_rfl) (fun _ _ _ h => h) (Or.inl ⟨by rfl, ?_⟩) ?_ ?_
    rotate_left
    · intro w'
      go_simp
      with_reducible rfl
    rotate_left
    · simp only [Act.put, List.setIfInBounds_toArray, List.set_cons_zero, List.set_cons_succ, i64_w, i32_w]
      rfl
    refine pure_ (i := 2) (N := some 48) (v := ?_) (a' := ?_) #[true, true, true, false, false, false, false, false] rfl rfl (by kernel_rfl) (fun _ _ _ h => h) (Or.inl ⟨by rfl, ?_⟩) ?_ ?_
    rotate_left
    · intro w'
      go_simp
      with_reducible rfl
    rotate_left
    · simp only [Act.put, List.setIfInBounds_toArray, List.set_cons_zero, List.set_cons_succ, i64_w, i32_w]
      rfl
    refine pure_ (i := 3) (N := some 49) (v := ?_) (a' := ?_) #[true, true, true, true, false, false, false, false] rfl rfl (by kernel_rfl) (fun _ _ _ h => h) (Or.inl ⟨by rfl, ?_⟩) ?_ ?_
    rotate_left
    · intro w'
      go_simp
      with_reducible rfl
    rotate_left
    · simp only [Act.put, List.setIfInBounds_toArray, List.set_cons_zero, List.set_cons_succ, i64_w, i32_w]
      rfl
    refine pure_ (i := 4) (N := some 50) (v := ?_) (a' := ?_) #[true, true, true, true, true, false, false, false] rfl rfl (by kernel_rfl) (fun _ _ _ h => h) (Or.inl ⟨by rfl, ?_⟩) ?_ ?_
    rotate_left
    · intro w'
      go_simp
      with_reducible rfl
    rotate_left
    · simp only [Act.put, List.setIfInBounds_toArray, List.set_cons_zero, List.set_cons_succ, i64_w, i32_w]
      rfl
    refine pure_ (i := 5) (N := some 51) (v := ?_) (a' := ?_) #[true, true, true, true, true, true, false, false] rfl rfl (by kernel_rfl) (fun _ _ _ h => h) (Or.inl ⟨by rfl, ?_⟩) ?_ ?_
    rotate_left
    · intro w'
      go_simp
      with_reducible rfl
    rotate_left
    · simp only [Act.put, List.setIfInBounds_toArray, List.set_cons_zero, List.set_cons_succ, i64_w, i32_w]
      rfl
    refine pure_ (i := 6) (N := some 7) (v := ?_) (a' := ?_) #[true, true, true, true, true, true, true, false] rfl rfl (by kernel_rfl) (fun _ _ _ h => h) (Or.inl ⟨by rfl, ?_⟩) ?_ ?_
    rotate_left
    · intro w'
      go_simp
      with_reducible rfl
    rotate_left
    · simp only [Act.put, List.setIfInBounds_toArray, List.set_cons_zero, List.set_cons_succ, i64_w, i32_w]
      rfl
    refine pure_ (i := 7) (N := some 8) (v := ?_) (a' := ?_) #[true, true, true, true, true, true, true, true] rfl rfl (by kernel_rfl) (fun _ _ _ h => h) (Or.inl ⟨by rfl, ?_⟩) ?_ ?_
    rotate_left
    · intro w'
      go_simp
      with_reducible rfl
    rotate_left
    · simp only [Act.put, List.setIfInBounds_toArray, List.set_cons_zero, List.set_cons_succ, i64_w, i32_w]
      rfl
    refine done_ (by kernel_rfl) ?_
    obtain ⟨A2, hA2⟩ : ∃ A2, A2 = (if cr = p then Ar else Option.map (fun x => x.add p) Ar) := ⟨_, rfl⟩
    obtain ⟨a, ha⟩ : ∃ a, a = row.take p := ⟨_, rfl⟩
    obtain ⟨d, hd⟩ : ∃ d, d = row.drop p := ⟨_, rfl⟩
    have HTk := Aside0.mk ha
    have hal : a.length = p := by rw [ha, List.length_take]; have := HN.out; omega
    have hdl : d.length = row.length - p := by rw [hd, List.length_drop]
    have hcap : p ≤ cr ∧ row.length - p ≤ cr - p := by have := (Kd.R_reads' HO6.out).2.1; have := HN.out; omega
    have HCS := Aside0.mk (show ∀ W' : World, Kd.R (Kd.int .i64) 3 W' w0.heap.size (fun _ => True) (.slice Ar row.length cr) row → Kd.C (Kd.int .i64) W' Ar a.length a ∧ Kd.C (Kd.int .i64) W' A2 d.length d from by
      intro W' hW
      obtain ⟨_, g1, g2⟩ := Kd.R_reads' hW
      have h1 := Kd.C_take (m := p) g2 HN.out.2.1
      have h2 := Kd.C_drop (m := p) (c := cr) g2 HN.out.2.1 g1
      rw [← ha] at h1
      rw [← hd] at h2
      refine ⟨h1, ?_⟩
      rw [hA2]
      simpa [Kd.sz, Kd.int, Kd.scalar] using h2)
    rw [← hA2]
    have HLn := Aside0.mk (show a.length = p ∧ d.length = row.length - p ∧ p ≤ cr ∧ row.length - p ≤ cr - p ∧ 257 ≤ p ∧ p ≤ 1000 from by have := HN.out; omega)
    have HH2 := HH.out
    rw [← ha, ← hd] at HH2
    have HH3 := Aside0.mk HH2
    have HR7 := Aside0.mk (HR6.out.below (Below.refl _ w6).drew)
    have HB7 := Aside0.mk HB6.out.drew
    have HK7 := Aside0.mk (HK6.out.below (Below.refl _ w6).drew)
    have HO7 := Aside0.mk (Kd.R_drew HO6.out)
    obtain ⟨ld, hld⟩ : ∃ ld, ld = row.length - p := ⟨_, rfl⟩
    obtain ⟨cd, hcd⟩ : ∃ cd, cd = cr - p := ⟨_, rfl⟩
    have HLm := Aside0.mk (show a.length = p ∧ d.length = ld ∧ p ≤ cr ∧ ld ≤ cd ∧ 257 ≤ p ∧ p ≤ 1000 ∧ ld ≤ 1000 from by have := HLn.out; have := HN.out; omega)
    rw [← hld, ← hcd]
    clear HH HH2 HR6 HB6 HK6 HO6 hcz6 ha hd hA2 d0 hcr hcp hp0 hp1 hcap hal hdl hld hcd HLn
    generalize w6.drew = w7 at HR7 HB7 HK7 HO7 ⊢
    have h := HH3.out
    obtain ⟨e1, hc1, h⟩ := Option.bind_eq_some_iff.1 h
    obtain ⟨e2, hc2, h⟩ := Option.bind_eq_some_iff.1 h
    have HC1 := Aside0.mk hc1
    have HC2 := Aside0.mk hc2
    obtain ⟨s7, hs7⟩ : ∃ s7, wantS s6 ((e1 == 0) && (e2 == 0) && decide (0 < rd a 256)) 3 = s7 := ⟨_, rfl⟩
    rw [hs7] at h
    have HS7 := Aside0.mk hs7
    have H7 := Aside0.mk h
    have H60 := Aside0.mk h0
    clear h hc1 hc2 hs7 HH3 h0
    go_upto_region 7 with fail
    go_cut [52, 53, 54, 55, 56, 57, 58, 59, 60, 61, 62, 63, 64, 65, 66, 67] (fun v52 v53 v54 v55 v56 v57 v58 v59 v60 v61 v62 v63 v64 v65 v66 v67 wc => v67 = .bool (s7.er == 0) ∧ Aside0 (Rdr w0 wc g b most s7) ∧ Aside0 (Below w0.heap.size w0 wc) ∧ Aside0 (Kd.R (Kd.int .i64) 3 wc w0.heap.size (fun _ => True) (.slice Ar row.length cr) row) ∧ Aside0 (KeepT w wc))
    case first =>
      clear H7
      have hcall := canon_Check.calls Ar cr a e1 w7 (HCS.out w7 HO7.out).1 (by have := HLm.out; omega) HC1.out
      rw [HLm.out.1] at hcall
      go_wp2_with fail
      refine hcall.mono ?_
      rintro e w8 ⟨rfl, hb⟩
      have HR8 := Aside0.mk (HR7.out.below hb)
      have HB8 := Aside0.mk (show Below w0.heap.size w0 w8 from below_then HB7.out HB7.out.size hb)
      have HO8 := Aside0.mk (Kd.R_below HO7.out hb)
      have HK8 := Aside0.mk (HK7.out.below hb)
      clear hb hcall HR7 HB7 HO7 HK7
      by_cases h1 : e1 = 0
      rotate_left
      · have d1 : (e1 == 0) = false := beq_eq_false_iff_ne.2 h1
        have HS := Aside0.mk (show wantS s6 false 3 = s7 from by have := HS7.out; rw [d1, Bool.false_and, Bool.false_and] at this; exact this)
        clear HS7
        go_wp2_with fail
        refine (rdr_want' g b most s6 false 3 s7 w0 w8 HS.out HR8.out HB8.out).mono ?_
        rintro e wz ⟨rfl, hRz, hBz, hKz, _⟩
        have HRz := Aside0.mk hRz
        have HBz := Aside0.mk hBz
        have HOz := Aside0.mk (introw_keepT HO8.out hKz)
        have HKz := Aside0.mk (HK8.out.trans hKz)
        clear hRz hBz hKz
        go_wp2_with fail
        go_meet
        case rel => exact ⟨rfl, HRz, HBz, HOz, HKz⟩
      have d1 : (e1 == 0) = true := beq_iff_eq.2 h1
      have hcall := canon_Check.calls A2 cd d e2 w8 (HCS.out w8 HO8.out).2 (by have := HLm.out; omega) HC2.out
      rw [HLm.out.2.1] at hcall
      go_wp2_with fail
      refine hcall.mono ?_
      rintro e w9 ⟨rfl, hb⟩
      have HR9 := Aside0.mk (HR8.out.below hb)
      have HB9 := Aside0.mk (show Below w0.heap.size w0 w9 from below_then HB8.out HB8.out.size hb)
      have HO9 := Aside0.mk (Kd.R_below HO8.out hb)
      have HK9 := Aside0.mk (HK8.out.below hb)
      clear hb hcall HR8 HB8 HO8 HK8
      by_cases h2 : e2 = 0
      rotate_left
      · have d2 : (e2 == 0) = false := beq_eq_false_iff_ne.2 h2
        have HS := Aside0.mk (show wantS s6 false 3 = s7 from by have := HS7.out; rw [d2, Bool.and_false, Bool.false_and] at this; exact this)
        clear HS7
        go_wp2_with fail
        refine (rdr_want' g b most s6 false 3 s7 w0 w9 HS.out HR9.out HB9.out).mono ?_
        rintro e wz ⟨rfl, hRz, hBz, hKz, _⟩
        have HRz := Aside0.mk hRz
        have HBz := Aside0.mk hBz
        have HOz := Aside0.mk (introw_keepT HO9.out hKz)
        have HKz := Aside0.mk (HK9.out.trans hKz)
        clear hRz hBz hKz
        go_wp2_with fail
        go_meet
        case rel => exact ⟨rfl, HRz, HBz, HOz, HKz⟩
      have d2 : (e2 == 0) = true := beq_iff_eq.2 h2
      have HS := Aside0.mk (show wantS s6 (decide (0 < rd a 256)) 3 = s7 from by have := HS7.out; rw [d1, d2, Bool.true_and, Bool.true_and] at this; exact this)
      obtain ⟨gr, cr2, er2, _⟩ := Kd.R_form HO9.out (by have := HN.out; omega)
      injection er2 with er2 er3 er4
      subst er2
      have hrow256 : (256 : Int) < (row.length : Int) := by have := HN.out; omega
      obtain ⟨hcell, _⟩ := Kd.R_celln (0 : Int) HO9.out (256 : Int) (by omega) hrow256
      have hrd : rdOf (0 : Int) row 256 = rd a 256 := by
        rw [HTk.out]
        show row.getD 256 0 = (row.take p).getD 256 0
        rw [List.getD_eq_getElem?_getD, List.getD_eq_getElem?_getD, List.getElem?_take_of_lt (by have := HN.out; omega)]
      rw [hrd, show (256 : Int).toNat = 256 from rfl] at hcell
      have hp256 : (256 : Int) < (p : Int) := by have := HLm.out; omega
      clear HS7 hrd er3 er4
      generalize rd a 256 = x at hcell HS
      go_wp2_with fail
      refine (rdr_want' g b most s6 (decide (0 < x)) 3 s7 w0 w9 HS.out HR9.out HB9.out).mono ?_
      rintro e wz ⟨rfl, hRz, hBz, hKz, _⟩
      have HRz := Aside0.mk hRz
      have HBz := Aside0.mk hBz
      have HOz := Aside0.mk (introw_keepT HO9.out hKz)
      have HKz := Aside0.mk (HK9.out.trans hKz)
      clear hRz hBz hKz hcell
      go_wp2_with fail
      go_meet
      case rel => exact ⟨rfl, HRz, HBz, HOz, HKz⟩
    case rest =>
      clear HR7 HB7 HO7 HK7
      obtain ⟨rfl, HR8, HB8, HO8, HK8⟩ := hcut
      have hF := H7.out
      by_cases h0 : s7.er = 0
      rotate_left
      · have d0 : (s7.er == 0) = false := beq_eq_false_iff_ne.2 h0
        rw [if_pos h0] at hF
        injection hF with hF
        subst hF
        simp only [d0]
        go_wp2_with fail
        go_end0
        exact ⟨rfl, HR8.out, HB8.out, HK8.out⟩
      have d0 : (s7.er == 0) = true := beq_iff_eq.2 h0
      rw [if_neg (by rw [h0]; simp)] at hF
      have hq : e1 = 0 ∧ e2 = 0 := by
        have h7 := HS7.out
        unfold wantS at h7
        by_cases hc : s6.er = 0 ∧ ((e1 == 0) && (e2 == 0) && decide (0 < rd a 256)) = false
        · rw [if_pos hc] at h7
          rw [← h7] at h0
          simp at h0
        · have ht : ((e1 == 0) && (e2 == 0) && decide (0 < rd a 256)) = true := by
            cases hb : ((e1 == 0) && (e2 == 0) && decide (0 < rd a 256)) with
            | true => rfl
            | false => exact absurd ⟨H60.out, hb⟩ hc
          simp only [Bool.and_eq_true, beq_iff_eq] at ht
          exact ht.1
      obtain ⟨q1, q2⟩ := hq
      subst q1 q2
      have hx1 := check_right0 HC1.out
      have hx2 := check_right0 HC2.out
      have HX1 := Aside0.mk hx1
      have HX2 := Aside0.mk hx2
      have HF := Aside0.mk hF
      have hcall := open_book Ar cr a wc (HCS.out wc HO8.out).1 (by have := HLm.out; omega) HX1.out.2 (by have := HX1.out.1; omega)
      rw [show a.length = p from HLm.out.1] at hcall
      have hla : a.length = p := HLm.out.1
      rw [hla] at HF
      clear hF h0 H7 hx1 hx2 HS7 HC1 HC2 hla
      simp only [d0]
      go_wp2_with fail
      refine hcall.mono ?_
      rintro e w9 ⟨g1, rfl, hk1, hb⟩
      have HA1 := Aside0.mk hk1
      have HR9 := Aside0.mk (HR8.out.below hb)
      have HB9 := Aside0.mk (show Below w0.heap.size w0 w9 from below_then HB8.out HB8.out.size hb)
      have HO9 := Aside0.mk (Kd.R_below HO8.out hb)
      have HK9 := Aside0.mk (HK8.out.below hb)
      clear hb hk1 hcall HR8 HB8 HO8 HK8
      have hcall := open_book A2 cd d w9 (HCS.out w9 HO9.out).2 (by have := HLm.out; omega) HX2.out.2 (by have := HX2.out.1; omega)
      rw [show d.length = ld from HLm.out.2.1] at hcall
      have hld : d.length = ld := HLm.out.2.1
      rw [hld] at HF
      clear hld
      go_wp2_with fail
      refine hcall.mono ?_
      rintro e w10 ⟨g2, rfl, hk2, hb⟩
      have HA2 := Aside0.mk hk2
      have HA1b := Aside0.mk (HA1.out.below hb)
      have HR10 := Aside0.mk (HR9.out.below hb)
      have HB10 := Aside0.mk (show Below w0.heap.size w0 w10 from below_then HB9.out HB9.out.size hb)
      have HK10 := Aside0.mk (HK9.out.below hb)
      clear hb hk2 hcall HR9 HB9 HO9 HK9 HA1
      go_wp2_with fail
      refine (rdr_coded g b most s7 _ g1 _ _ _ g2 _ _ M sr w0 w10 HR10.out HB10.out HA1b.out HA2.out HF.out).mono ?_
      rintro e w11 ⟨rfl, hR11, hB11, hK11⟩
      have HR11 := Aside0.mk hR11
      have HB11 := Aside0.mk hB11
      have HK11 := Aside0.mk (HK10.out.trans hK11)
      clear hR11 hB11 hK11
      go_wp2_with fail
      go_end0
      exact ⟨rfl, HR11.out, HB11.out, HK11.out⟩

-- PART
end Go.Proofs.Ytcjijhjdkgjgeaa.P
