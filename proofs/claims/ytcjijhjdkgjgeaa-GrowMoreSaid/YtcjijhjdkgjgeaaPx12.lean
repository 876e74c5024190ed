-- Written by a program of this session out of the translation. Lean checks it.
import Derived.Test.YtcjijhjdkgjgeaaPx0
import Derived.Test.YtcjijhjdkgjgeaaPx2
import Derived.Test.YtcjijhjdkgjgeaaPx4
import Derived.Test.YtcjijhjdkgjgeaaPx6
import Derived.Test.YtcjijhjdkgjgeaaPx8
import Derived.Test.YtcjijhjdkgjgeaaPx10
import Derived.Test.YtcjijhjdkgjgeaaPx11
namespace Go.Proofs.Ytcjijhjdkgjgeaa.P
open Go.RowKit Go.Proofs.YtcjijhjdkgjgeaaW.PrintWords Go.Proofs.YtcjijhjdkgjgeaaW.PrintLast Go.Proofs.YtcjijhjdkgjgeaaW.PrintMore
attribute [local go_sem] max2_int min2_int max_two min_two max_three min_three max_four min_four   -- for this text's walks alone
set_option linter.unusedVariables false
set_option linter.unusedSimpArgs false

-- PART
/-! ### grow_reader_piece: function 64 (by hand) -/
/-- So many bytes from so far back. -/
def copyL (most dist : Int) : Nat → RSt → Option RSt
  | 0, s => some s
  | n + 1, s => if 1 ≤ dist ∧ dist ≤ s.out.length ∧ s.out.length ≤ 1000000000 then copyL most dist n (tellS most s (rd s.out ((s.out.length : Int) - dist))) else none
def pieceH (most n dist : Int) (s : RSt) : Option RSt := if s.er ≠ 0 then some s else if 0 ≤ n ∧ n ≤ 1000000 then copyL most dist n.toNat s else none
def pieceG (most n dist : Int) (s : RSt) : Option RSt := if s.er ≠ 0 then some s else pieceH most n dist (wantS s (decide (n ≤ wrap64 (most - s.out.length))) 2)
/-- What stands behind a piece's length and its bits. -/
def pieceD (F : Nat → Int) (S : Nat → List Int) (b : List Int) (most n : Int) (s : RSt) : Option RSt :=
  (symS F S b s).bind fun r => (sym_DistOf.f 400 r.1).bind fun d =>
    if (wantS r.2 (d.2.2 == 0) 3).er ≠ 0 then some (wantS r.2 (d.2.2 == 0) 3)
    else (takeS b (wantS r.2 (d.2.2 == 0) 3) d.2.1).bind fun t => pieceG most n (wrap64 (d.1 + t.1)) (wantS t.2 (decide (wrap64 (d.1 + t.1) ≤ t.2.out.length)) 3)
def pieceS (F : Nat → Int) (S : Nat → List Int) (b : List Int) (most : Int) (s : RSt) (y : Int) : Option RSt :=
  (sym_LenOf.f 400 y).bind fun l =>
    if (wantS s (l.2.2 == 0) 3).er ≠ 0 then some (wantS s (l.2.2 == 0) 3)
    else (takeS b (wantS s (l.2.2 == 0) 3) l.2.1).bind fun t => pieceD F S b most (wrap64 (l.1 + t.1)) t.2
set_option maxHeartbeats 8000000 in
set_option maxRecDepth 100000 in
theorem rdr_piece (g : Nat) (b : List Int) (most : Int) (s : RSt) (y : Int) (base gk : Nat) (F : Nat → Int) (S : Nat → List Int) (sr : RSt) (w0 w : World) (hR : Rdr w0 w g b most s) (hB : Below w0.heap.size w0 w) (hK : BookAt w base gk F S) (h : pieceS F S b most s y = some sr) :
    Calls Try.prog 64 #[.pointer (some ⟨g, 0, none⟩), .int .i64 y, .pointer (some ⟨gk, 0, none⟩)] w fun r w' => r = .returned (.tuple #[]) ∧ Rdr w0 w' g b most sr ∧ Below w0.heap.size w0 w' ∧ KeepT w w' := by
  unfold pieceS at h
  obtain ⟨⟨l1, l2, l3⟩, ha, h⟩ := Option.bind_eq_some_iff.1 h
  have HA := Aside0.mk ha
  have H := Aside0.mk h
  have HR := Aside0.mk hR
  have HB := Aside0.mk hB
  have HKb := Aside0.mk hK
  clear ha h hR hB hK
  go_enter Try.func64, Try.ntmps64
  go_wp2_with fail
  refine (sym_LenOf.calls 400 y l1 l2 l3 w HA.out).mono ?_
  rintro e w1 ⟨rfl, hd⟩
  have HR1 := Aside0.mk (HR.out.below hd)
  have HB1 := Aside0.mk (show Below w0.heap.size w0 w1 from below_then HB.out HB.out.size hd)
  have HKb1 := Aside0.mk (HKb.out.below hd)
  have HK1 := Aside0.mk (KeepT.of_below hd)
  clear hd HR HB HKb
  go_wp2_with fail
  refine (rdr_want g b most s (l3 == 0) 3 w0 w1 HR1.out HB1.out).mono ?_
  rintro e w2 ⟨rfl, hR2, hB2, hK2⟩
  have HR2 := Aside0.mk hR2
  have HB2 := Aside0.mk hB2
  have HKb2 := Aside0.mk (HKb1.out.keepT hK2)
  have HK2 := Aside0.mk (HK1.out.trans hK2)
  clear hR2 hB2 hK2 HR1 HB1 HKb1 HK1 HA
  generalize wantS s (l3 == 0) 3 = s2 at H HR2 ⊢
  by_cases h0 : s2.er = 0
  rotate_left
  · have d0 : (s2.er == 0) = false := beq_eq_false_iff_ne.2 h0
    have h := H.out
    rw [if_pos h0] at h
    injection h with h
    subst h
    go_wp2_with fail
    ((try simp only [Exit.inBlock, Exit.then]); refine bodyPost_ret (results_none rfl _ _ _) rfl ?_)
    exact ⟨rfl, HR2.out, HB2.out, HK2.out⟩
  have d0 : (s2.er == 0) = true := beq_iff_eq.2 h0
  have h := H.out
  rw [if_neg (by rw [h0]; simp)] at h
  obtain ⟨⟨v3, s3⟩, ha, h⟩ := Option.bind_eq_some_iff.1 h
  have HT := Aside0.mk ha
  have H3 := Aside0.mk h
  clear ha h H h0
  go_wp2_with fail
  refine (rdr_take g b most s2 l2 v3 s3 w0 w2 HR2.out HB2.out HT.out).mono ?_
  rintro e w3 ⟨rfl, hR3, hB3, hK3⟩
  have HR3 := Aside0.mk hR3
  have HB3 := Aside0.mk hB3
  have HKb3 := Aside0.mk (HKb2.out.keepT hK3)
  have HK3 := Aside0.mk (HK2.out.trans hK3)
  clear hR3 hB3 hK3 HR2 HB2 HKb2 HK2 HT d0
  go_wp2_with fail
  clear h
  generalize wrap64 (l1 + v3) = n at H3 ⊢
  have h := H3.out
  unfold pieceD at h
  obtain ⟨⟨y4, s4⟩, ha, h⟩ := Option.bind_eq_some_iff.1 h
  obtain ⟨⟨d1, d2, d3⟩, hd, h⟩ := Option.bind_eq_some_iff.1 h
  have HS4 := Aside0.mk ha
  have HD4 := Aside0.mk hd
  have H4 := Aside0.mk h
  clear ha hd h H3
  refine (rdr_sym g b most s3 base gk F S y4 s4 w0 w3 HR3.out HB3.out HKb3.out HS4.out).mono ?_
  rintro e w4 ⟨rfl, hR4, hB4, hK4⟩
  have HR4 := Aside0.mk hR4
  have HB4 := Aside0.mk hB4
  have HK4 := Aside0.mk (HK3.out.trans hK4)
  clear hR4 hB4 hK4 HR3 HB3 HKb3 HK3 HS4
  go_wp2_with fail
  refine (sym_DistOf.calls 400 y4 d1 d2 d3 w4 HD4.out).mono ?_
  rintro e w5 ⟨rfl, hd⟩
  have HR5 := Aside0.mk (HR4.out.below hd)
  have HB5 := Aside0.mk (show Below w0.heap.size w0 w5 from below_then HB4.out HB4.out.size hd)
  have HK5 := Aside0.mk (HK4.out.trans (KeepT.of_below hd))
  clear hd HR4 HB4 HK4 HD4
  go_wp2_with fail
  refine (rdr_want g b most s4 (d3 == 0) 3 w0 w5 HR5.out HB5.out).mono ?_
  rintro e w6 ⟨rfl, hR6, hB6, hK6⟩
  have HR6 := Aside0.mk hR6
  have HB6 := Aside0.mk hB6
  have HK6 := Aside0.mk (HK5.out.trans hK6)
  clear hR6 hB6 hK6 HR5 HB5 HK5
  generalize wantS s4 (d3 == 0) 3 = s5 at H4 HR6 ⊢
  by_cases h0 : s5.er = 0
  rotate_left
  · have d0 : (s5.er == 0) = false := beq_eq_false_iff_ne.2 h0
    have h := H4.out
    rw [if_pos h0] at h
    injection h with h
    subst h
    go_wp2_with fail
    ((try simp only [Exit.inBlock, Exit.then]); refine bodyPost_ret (results_none rfl _ _ _) rfl ?_)
    exact ⟨rfl, HR6.out, HB6.out, HK6.out⟩
  have d0 : (s5.er == 0) = true := beq_iff_eq.2 h0
  have h := H4.out
  rw [if_neg (by rw [h0]; simp)] at h
  obtain ⟨⟨v7, s7⟩, ha, h⟩ := Option.bind_eq_some_iff.1 h
  have HT := Aside0.mk ha
  have H7 := Aside0.mk h
  clear ha h H4 h0
  go_wp2_with fail
  refine (rdr_take g b most s5 d2 v7 s7 w0 w6 HR6.out HB6.out HT.out).mono ?_
  rintro e w7 ⟨rfl, hR7, hB7, hK7⟩
  have HR7 := Aside0.mk hR7
  have HB7 := Aside0.mk hB7
  have HK7 := Aside0.mk (HK6.out.trans hK7)
  clear hR7 hB7 hK7 HR6 HB6 HK6 HT d0
  go_upto_region 6 with fail
  generalize wrap64 (d1 + v7) = dist at H7 ⊢
  obtain ⟨A0, c0, A3, c3, hg, hge, hb, hc, ho⟩ := HR7.out.cells
  have hcz3 : w7.cell? ⟨g, 3, none⟩ = some (.slice A3 s7.out.length c3) := (blk_cell hg 3).trans rfl
  have hcz2 : w7.cell? ⟨g, 2, none⟩ = some (.int .i64 most) := (blk_cell hg 2).trans rfl
  clear hg hb hc ho
  obtain ⟨s8, hs8⟩ : ∃ s8, wantS s7 (decide (dist ≤ s7.out.length)) 3 = s8 := ⟨_, rfl⟩
  have h := H7.out
  rw [hs8] at h
  have HS8 := Aside0.mk hs8
  have H8 := Aside0.mk h
  clear h hs8 H7
  by_cases h0 : s8.er = 0
  rotate_left
  · have d0 : (s8.er == 0) = false := beq_eq_false_iff_ne.2 h0
    refine start_ (n := 27) (S := fun w' => w'.cell? ⟨g, 3, none⟩ = some (.slice A3 s7.out.length c3) ∧ w'.cell? ⟨g, 2, none⟩ = some (.int .i64 most)) (ds := []) #[false, false, false, false, false, false, false, false, false, false, false, false, false, false, false, false, false, false, false, false, false, false, false, false, false, false, false] (by kernel_rfl) rfl rfl ⟨hcz3, hcz2⟩ (fun hHeld => ?_)
    refine pure_ (i := 0) (N := some 45) (v := ?_) (a' := ?_) #[true, false, false, false, false, false, false, false, false, false, false, false, false, false, false, false, false, false, false, false, false, false, false, false, false, false, false] rfl rfl (by kernel_rfl) (fun _ _ _ h => h) (Or.inl ⟨by rfl, ?_⟩) ?_ ?_
    rotate_left
    · intro w'
      go_simp
      with_reducible rfl
    rotate_left
    · simp only [Act.put, List.setIfInBounds_toArray, List.set_cons_zero, List.set_cons_succ, i64_w, i32_w]
      rfl
    refine pure_ (i := 1) (N := some 46) (v := ?_) (a' := ?_) #[true, true, false, false, false, false, false, false, false, false, false, false, false, false, false, false, false, false, false, false, false, false, false, false, false, false, false] rfl rfl (by kernel_rfl) (fun _ _ _ h => h) (Or.inl ⟨by rfl, ?_⟩) ?_ ?_
    rotate_left
    · intro w'
      go_simp
      with_reducible rfl
    rotate_left
    · simp only [Act.put, List.setIfInBounds_toArray, List.set_cons_zero, List.set_cons_succ, i64_w, i32_w]
      rfl
    refine pure_ (i := 2) (N := some 47) (v := ?_) (a' := ?_) #[true, true, true, false, false, false, false, false, false, false, false, false, false, false, false, false, false, false, false, false, false, false, false, false, false, false, false] rfl rfl (by kernel_rfl) (fun _ _ _ h => h) (Or.inl ⟨by rfl, ?_⟩) ?_ ?_
    rotate_left
    · intro w'
      go_simp
      with_reducible rfl
    rotate_left
    · simp only [Act.put, List.setIfInBounds_toArray, List.set_cons_zero, List.set_cons_succ, i64_w, i32_w]
      rfl
    refine pure_ (i := 3) (N := some 48) (v := ?_) (a' := ?_) #[true, true, true, true, false, false, false, false, false, false, false, false, false, false, false, false, false, false, false, false, false, false, false, false, false, false, false] rfl rfl (by kernel_rfl) (fun _ _ _ h => h) (Or.inl ⟨by rfl, ?_⟩) ?_ ?_
    rotate_left
    · intro w'
      go_simp
      with_reducible rfl
    rotate_left
    · simp only [Act.put, List.setIfInBounds_toArray, List.set_cons_zero, List.set_cons_succ, i64_w, i32_w]
      rfl
    refine pure_ (i := 4) (N := some 49) (v := ?_) (a' := ?_) #[true, true, true, true, true, false, false, false, false, false, false, false, false, false, false, false, false, false, false, false, false, false, false, false, false, false, false] rfl rfl (by kernel_rfl) (fun _ _ _ h => h) (Or.inl ⟨by rfl, ?_⟩) ?_ ?_
    rotate_left
    · intro w'
      go_simp
      with_reducible rfl
    rotate_left
    · simp only [Act.put, List.setIfInBounds_toArray, List.set_cons_zero, List.set_cons_succ, i64_w, i32_w]
      rfl
    refine take_ (i := 5) (N := some 50) (v := ?_) (a' := ?_) #[true, true, true, true, true, true, false, false, false, false, false, false, false, false, false, false, false, false, false, false, false, false, false, false, false, false, false] rfl rfl (by kernel_rfl) (fun _ _ _ h => h) (Or.inl ⟨by rfl, ?_⟩) hHeld ?_ ?_
    rotate_left
    · rintro w' ⟨s0, s1⟩
      go_simp
      with_reducible rfl
    rotate_left
    · simp only [Act.put, List.setIfInBounds_toArray, List.set_cons_zero, List.set_cons_succ, i64_w, i32_w]
      rfl
    refine pure_ (i := 6) (N := some 51) (v := ?_) (a' := ?_) #[true, true, true, true, true, true, true, false, false, false, false, false, false, false, false, false, false, false, false, false, false, false, false, false, false, false, false] rfl rfl (by kernel_rfl) (fun _ _ _ h => h) (Or.inl ⟨by rfl, ?_⟩) ?_ ?_
    rotate_left
    · intro w'
      go_simp
      with_reducible rfl
    rotate_left
    · simp only [Act.put, List.setIfInBounds_toArray, List.set_cons_zero, List.set_cons_succ, i64_w, i32_w]
      rfl
    refine pure_ (i := 7) (N := some 52) (v := ?_) (a' := ?_) #[true, true, true, true, true, true, true, true, false, false, false, false, false, false, false, false, false, false, false, false, false, false, false, false, false, false, false] rfl rfl (by kernel_rfl) (fun _ _ _ h => h) (Or.inl ⟨by rfl, ?_⟩) ?_ ?_
    rotate_left
    · intro w'
      go_simp
      with_reducible rfl
    rotate_left
    · simp only [Act.put, List.setIfInBounds_toArray, List.set_cons_zero, List.set_cons_succ, i64_w, i32_w]
      rfl
    refine one_ (i := 8) (N := some 53) #[true, true, true, true, true, true, true, true, true, false, false, false, false, false, false, false, false, false, false, false, false, false, false, false, false, false, false] rfl rfl (by kernel_rfl) (by decide) (fun K hK => ?_)
    refine goes_ Try.func48 (by kernel_rfl) rfl #[.pointer (some ⟨g, 0, none⟩), .bool (decide (dist ≤ s7.out.length)), .int .i64 3] (by rfl) rfl rfl (by simp only [List.map_toArray, List.map_cons, List.map_nil]; rfl) ?_
    with_reducible refine (rdr_want' g b most s7 (decide (dist ≤ s7.out.length)) 3 s8 w0 w7.drew HS8.out (HR7.out.below (Below.refl _ _).drew) HB7.out.drew).mono ?_
    rintro e w8 ⟨rfl, hR8, hB8, hK8, hq8⟩
    refine ⟨_, rfl, ?_⟩
    have hcw2 : w8.cell? ⟨g, 2, none⟩ = some (.int .i64 most) := (hq8 2 (by decide)).trans hcz2
    have hcw3 : w8.cell? ⟨g, 3, none⟩ = some (.slice A3 s7.out.length c3) := (hq8 3 (by decide)).trans hcz3
    have HR8 := Aside0.mk hR8
    have HB8 := Aside0.mk hB8
    have HK8 := Aside0.mk ((HK7.out.trans (KeepT.of_below (Below.refl _ w7).drew)).trans hK8)
    clear hR8 hB8 hK8 hq8
    refine hK.out _ _ ⟨hcw3, hcw2⟩ (fun hHeld => ?_)
    clear hK K
    refine norm_ (a' := ?_) ?_ ?_
    rotate_left
    · show Act.put _ (some 53) _ = _
      simp only [Act.put, List.setIfInBounds_toArray, List.set_cons_zero, List.set_cons_succ, i64_w, i32_w]
      rfl
    refine pure_ (i := 9) (N := some 54) (v := ?_) (a' := ?_) #[true, true, true, true, true, true, true, true, true, true, false, false, false, false, false, false, false, false, false, false, false, false, false, false, false, false, false] rfl rfl (by kernel_rfl) (fun _ _ _ h => h) (Or.inl ⟨by rfl, ?_⟩) ?_ ?_
    rotate_left
    · intro w'
      go_simp
      with_reducible rfl
    rotate_left
    · simp only [Act.put, List.setIfInBounds_toArray, List.set_cons_zero, List.set_cons_succ, i64_w, i32_w]
      rfl
    refine pure_ (i := 10) (N := some 55) (v := ?_) (a' := ?_) #[true, true, true, true, true, true, true, true, true, true, true, false, false, false, false, false, false, false, false, false, false, false, false, false, false, false, false] rfl rfl (by kernel_rfl) (fun _ _ _ h => h) (Or.inl ⟨by rfl, ?_⟩) ?_ ?_
    rotate_left
    · intro w'
      go_simp
      with_reducible rfl
    rotate_left
    · simp only [Act.put, List.setIfInBounds_toArray, List.set_cons_zero, List.set_cons_succ, i64_w, i32_w]
      rfl
    refine pure_ (i := 11) (N := some 56) (v := undef) (a' := ?_) #[true, true, true, true, true, true, true, true, true, true, true, true, false, false, false, false, false, false, false, false, false, false, false, false, false, false, false] rfl rfl (by kernel_rfl) (fun _ _ _ h => h) (Or.inr ⟨by rfl, rfl⟩) ?_ ?_
    rotate_left
    · simp only [Act.put, List.setIfInBounds_toArray, List.set_cons_zero, List.set_cons_succ, i64_w, i32_w]
      rfl
    refine pure_ (i := 12) (N := some 57) (v := undef) (a' := ?_) #[true, true, true, true, true, true, true, true, true, true, true, true, true, false, false, false, false, false, false, false, false, false, false, false, false, false, false] rfl rfl (by kernel_rfl) (fun _ _ _ h => h) (Or.inr ⟨by rfl, rfl⟩) ?_ ?_
    rotate_left
    · simp only [Act.put, List.setIfInBounds_toArray, List.set_cons_zero, List.set_cons_succ, i64_w, i32_w]
      rfl
    refine pure_ (i := 13) (N := some 58) (v := undef) (a' := ?_) #[true, true, true, true, true, true, true, true, true, true, true, true, true, true, false, false, false, false, false, false, false, false, false, false, false, false, false] rfl rfl (by kernel_rfl) (fun _ _ _ h => h) (Or.inr ⟨by rfl, rfl⟩) ?_ ?_
    rotate_left
    · simp only [Act.put, List.setIfInBounds_toArray, List.set_cons_zero, List.set_cons_succ, i64_w, i32_w]
      rfl
    refine pure_ (i := 14) (N := some 59) (v := undef) (a' := ?_) #[true, true, true, true, true, true, true, true, true, true, true, true, true, true, true, false, false, false, false, false, false, false, false, false, false, false, false] rfl rfl (by kernel_rfl) (fun _ _ _ h => h) (Or.inr ⟨by rfl, rfl⟩) ?_ ?_
    rotate_left
    · simp only [Act.put, List.setIfInBounds_toArray, List.set_cons_zero, List.set_cons_succ, i64_w, i32_w]
      rfl
    refine pure_ (i := 15) (N := some 60) (v := undef) (a' := ?_) #[true, true, true, true, true, true, true, true, true, true, true, true, true, true, true, true, false, false, false, false, false, false, false, false, false, false, false] rfl rfl (by kernel_rfl) (fun _ _ _ h => h) (Or.inr ⟨by rfl, rfl⟩) ?_ ?_
    rotate_left
    · simp only [Act.put, List.setIfInBounds_toArray, List.set_cons_zero, List.set_cons_succ, i64_w, i32_w]
      rfl
    refine pure_ (i := 16) (N := some 61) (v := undef) (a' := ?_) #[true, true, true, true, true, true, true, true, true, true, true, true, true, true, true, true, true, false, false, false, false, false, false, false, false, false, false] rfl rfl (by kernel_rfl) (fun _ _ _ h => h) (Or.inr ⟨by rfl, rfl⟩) ?_ ?_
    rotate_left
    · simp only [Act.put, List.setIfInBounds_toArray, List.set_cons_zero, List.set_cons_succ, i64_w, i32_w]
      rfl
    refine pure_ (i := 17) (N := some 62) (v := undef) (a' := ?_) #[true, true, true, true, true, true, true, true, true, true, true, true, true, true, true, true, true, true, false, false, false, false, false, false, false, false, false] rfl rfl (by kernel_rfl) (fun _ _ _ h => h) (Or.inr ⟨by rfl, rfl⟩) ?_ ?_
    rotate_left
    · simp only [Act.put, List.setIfInBounds_toArray, List.set_cons_zero, List.set_cons_succ, i64_w, i32_w]
      rfl
    refine pure_ (i := 18) (N := some 63) (v := undef) (a' := ?_) #[true, true, true, true, true, true, true, true, true, true, true, true, true, true, true, true, true, true, true, false, false, false, false, false, false, false, false] rfl rfl (by kernel_rfl) (fun _ _ _ h => h) (Or.inr ⟨by rfl, rfl⟩) ?_ ?_
    rotate_left
    · simp only [Act.put, List.setIfInBounds_toArray, List.set_cons_zero, List.set_cons_succ, i64_w, i32_w]
      rfl
    refine pure_ (i := 19) (N := some 64) (v := undef) (a' := ?_) #[true, true, true, true, true, true, true, true, true, true, true, true, true, true, true, true, true, true, true, true, false, false, false, false, false, false, false] rfl rfl (by kernel_rfl) (fun _ _ _ h => h) (Or.inr ⟨by rfl, rfl⟩) ?_ ?_
    rotate_left
    · simp only [Act.put, List.setIfInBounds_toArray, List.set_cons_zero, List.set_cons_succ, i64_w, i32_w]
      rfl
    refine pure_ (i := 20) (N := some 65) (v := undef) (a' := ?_) #[true, true, true, true, true, true, true, true, true, true, true, true, true, true, true, true, true, true, true, true, true, false, false, false, false, false, false] rfl rfl (by kernel_rfl) (fun _ _ _ h => h) (Or.inr ⟨by rfl, rfl⟩) ?_ ?_
    rotate_left
    · simp only [Act.put, List.setIfInBounds_toArray, List.set_cons_zero, List.set_cons_succ, i64_w, i32_w]
      rfl
    refine pure_ (i := 21) (N := some 66) (v := undef) (a' := ?_) #[true, true, true, true, true, true, true, true, true, true, true, true, true, true, true, true, true, true, true, true, true, true, false, false, false, false, false] rfl rfl (by kernel_rfl) (fun _ _ _ h => h) (Or.inr ⟨by rfl, rfl⟩) ?_ ?_
    rotate_left
    · simp only [Act.put, List.setIfInBounds_toArray, List.set_cons_zero, List.set_cons_succ, i64_w, i32_w]
      rfl
    refine pure_ (i := 22) (N := some 67) (v := undef) (a' := ?_) #[true, true, true, true, true, true, true, true, true, true, true, true, true, true, true, true, true, true, true, true, true, true, true, false, false, false, false] rfl rfl (by kernel_rfl) (fun _ _ _ h => h) (Or.inr ⟨by rfl, rfl⟩) ?_ ?_
    rotate_left
    · simp only [Act.put, List.setIfInBounds_toArray, List.set_cons_zero, List.set_cons_succ, i64_w, i32_w]
      rfl
    refine pure_ (i := 23) (N := some 68) (v := undef) (a' := ?_) #[true, true, true, true, true, true, true, true, true, true, true, true, true, true, true, true, true, true, true, true, true, true, true, true, false, false, false] rfl rfl (by kernel_rfl) (fun _ _ _ h => h) (Or.inr ⟨by rfl, rfl⟩) ?_ ?_
    rotate_left
    · simp only [Act.put, List.setIfInBounds_toArray, List.set_cons_zero, List.set_cons_succ, i64_w, i32_w]
      rfl
    refine pure_ (i := 24) (N := some 69) (v := undef) (a' := ?_) #[true, true, true, true, true, true, true, true, true, true, true, true, true, true, true, true, true, true, true, true, true, true, true, true, true, false, false] rfl rfl (by kernel_rfl) (fun _ _ _ h => h) (Or.inr ⟨by rfl, rfl⟩) ?_ ?_
    rotate_left
    · simp only [Act.put, List.setIfInBounds_toArray, List.set_cons_zero, List.set_cons_succ, i64_w, i32_w]
      rfl
    refine pure_ (i := 25) (N := some 70) (v := undef) (a' := ?_) #[true, true, true, true, true, true, true, true, true, true, true, true, true, true, true, true, true, true, true, true, true, true, true, true, true, true, false] rfl rfl (by kernel_rfl) (fun _ _ _ h => h) (Or.inr ⟨by rfl, rfl⟩) ?_ ?_
    rotate_left
    · simp only [Act.put, List.setIfInBounds_toArray, List.set_cons_zero, List.set_cons_succ, i64_w, i32_w]
      rfl
    refine pure_ (i := 26) (N := some 71) (v := ?_) (a' := ?_) #[true, true, true, true, true, true, true, true, true, true, true, true, true, true, true, true, true, true, true, true, true, true, true, true, true, true, true] rfl rfl (by kernel_rfl) (fun _ _ _ h => h) (Or.inl ⟨by rfl, ?_⟩) ?_ ?_
    rotate_left
    · intro w'
      go_simp
      with_reducible rfl
    rotate_left
    · simp only [Act.put, List.setIfInBounds_toArray, List.set_cons_zero, List.set_cons_succ, i64_w, i32_w]
      rfl
    refine done_ (by kernel_rfl) ?_
    all_goals
      have h := H8.out
      unfold pieceG at h
      rw [if_pos h0] at h
      injection h with h
      subst h
      go_wp2_with fail
      ((try simp only [Exit.inBlock, Exit.then]); refine bodyPost_ret (results_none rfl _ _ _) rfl ?_)
      exact ⟨rfl, HR8.out, HB8.out, HK8.out⟩
  have d0 : (s8.er == 0) = true := beq_iff_eq.2 h0
  obtain ⟨s9, hs9⟩ : ∃ s9, wantS s8 (decide (n ≤ wrap64 (most - s8.out.length))) 2 = s9 := ⟨_, rfl⟩
  have h := H8.out
  unfold pieceG at h
  rw [if_neg (by rw [h0]; simp), hs9] at h
  have HS9 := Aside0.mk hs9
  have H9 := Aside0.mk h
  clear h hs9 H8
  have e8 := (wantS_out s7 (decide (dist ≤ s7.out.length)) 3).1
  rw [HS8.out] at e8
  rw [e8] at HS9
  clear e8
  refine start_ (n := 27) (S := fun w' => w'.cell? ⟨g, 3, none⟩ = some (.slice A3 s7.out.length c3) ∧ w'.cell? ⟨g, 2, none⟩ = some (.int .i64 most)) (ds := []) #[false, false, false, false, false, false, false, false, false, false, false, false, false, false, false, false, false, false, false, false, false, false, false, false, false, false, false] (by kernel_rfl) rfl rfl ⟨hcz3, hcz2⟩ (fun hHeld => ?_)
  refine pure_ (i := 0) (N := some 45) (v := ?_) (a' := ?_) #[true, false, false, false, false, false, false, false, false, false, false, false, false, false, false, false, false, false, false, false, false, false, false, false, false, false, false] rfl rfl (by kernel_rfl) (fun _ _ _ h => h) (Or.inl ⟨by rfl, ?_⟩) ?_ ?_
  rotate_left
  · intro w'
    go_simp
    with_reducible rfl
  rotate_left
  · simp only [Act.put, List.setIfInBounds_toArray, List.set_cons_zero, List.set_cons_succ, i64_w, i32_w]
    rfl
  refine pure_ (i := 1) (N := some 46) (v := ?_) (a' := ?_) #[true, true, false, false, false, false, false, false, false, false, false, false, false, false, false, false, false, false, false, false, false, false, false, false, false, false, false] rfl rfl (by kernel_rfl) (fun _ _ _ h => h) (Or.inl ⟨by rfl, ?_⟩) ?_ ?_
  rotate_left
  · intro w'
    go_simp
    with_reducible rfl
  rotate_left
  · simp only [Act.put, List.setIfInBounds_toArray, List.set_cons_zero, List.set_cons_succ, i64_w, i32_w]
    rfl
  refine pure_ (i := 2) (N := some 47) (v := ?_) (a' := ?_) #[true, true, true, false, false, false, false, false, false, false, false, false, false, false, false, false, false, false, false, false, false, false, false, false, false, false, false] rfl rfl (by kernel_rfl) (fun _ _ _ h => h) (Or.inl ⟨by rfl, ?_⟩) ?_ ?_
  rotate_left
  · intro w'
    go_simp
    with_reducible rfl
  rotate_left
  · simp only [Act.put, List.setIfInBounds_toArray, List.set_cons_zero, List.set_cons_succ, i64_w, i32_w]
    rfl
  refine pure_ (i := 3) (N := some 48) (v := ?_) (a' := ?_) #[true, true, true, true, false, false, false, false, false, false, false, false, false, false, false, false, false, false, false, false, false, false, false, false, false, false, false] rfl rfl (by kernel_rfl) (fun _ _ _ h => h) (Or.inl ⟨by rfl, ?_⟩) ?_ ?_
  rotate_left
  · intro w'
    go_simp
    with_reducible rfl
  rotate_left
  · simp only [Act.put, List.setIfInBounds_toArray, List.set_cons_zero, List.set_cons_succ, i64_w, i32_w]
    rfl
  refine pure_ (i := 4) (N := some 49) (v := ?_) (a' := ?_) #[true, true, true, true, true, false, false, false, false, false, false, false, false, false, false, false, false, false, false, false, false, false, false, false, false, false, false] rfl rfl (by kernel_rfl) (fun _ _ _ h => h) (Or.inl ⟨by rfl, ?_⟩) ?_ ?_
  rotate_left
  · intro w'
    go_simp
    with_reducible rfl
  rotate_left
  · simp only [Act.put, List.setIfInBounds_toArray, List.set_cons_zero, List.set_cons_succ, i64_w, i32_w]
    rfl
  refine take_ (i := 5) (N := some 50) (v := ?_) (a' := ?_) #[true, true, true, true, true, true, false, false, false, false, false, false, false, false, false, false, false, false, false, false, false, false, false, false, false, false, false] rfl rfl (by kernel_rfl) (fun _ _ _ h => h) (Or.inl ⟨by rfl, ?_⟩) hHeld ?_ ?_
  rotate_left
  · rintro w' ⟨s0, s1⟩
    go_simp
    with_reducible rfl
  rotate_left
  · simp only [Act.put, List.setIfInBounds_toArray, List.set_cons_zero, List.set_cons_succ, i64_w, i32_w]
    rfl
  refine pure_ (i := 6) (N := some 51) (v := ?_) (a' := ?_) #[true, true, true, true, true, true, true, false, false, false, false, false, false, false, false, false, false, false, false, false, false, false, false, false, false, false, false] rfl rfl (by kernel_rfl) (fun _ _ _ h => h) (Or.inl ⟨by rfl, ?_⟩) ?_ ?_
  rotate_left
  · intro w'
    go_simp
    with_reducible rfl
  rotate_left
  · simp only [Act.put, List.setIfInBounds_toArray, List.set_cons_zero, List.set_cons_succ, i64_w, i32_w]
    rfl
  refine pure_ (i := 7) (N := some 52) (v := ?_) (a' := ?_) #[true, true, true, true, true, true, true, true, false, false, false, false, false, false, false, false, false, false, false, false, false, false, false, false, false, false, false] rfl rfl (by kernel_rfl) (fun _ _ _ h => h) (Or.inl ⟨by rfl, ?_⟩) ?_ ?_
  rotate_left
  · intro w'
    go_simp
    with_reducible rfl
  rotate_left
  · simp only [Act.put, List.setIfInBounds_toArray, List.set_cons_zero, List.set_cons_succ, i64_w, i32_w]
    rfl
  refine one_ (i := 8) (N := some 53) #[true, true, true, true, true, true, true, true, true, false, false, false, false, false, false, false, false, false, false, false, false, false, false, false, false, false, false] rfl rfl (by kernel_rfl) (by decide) (fun K hK => ?_)
  refine goes_ Try.func48 (by kernel_rfl) rfl #[.pointer (some ⟨g, 0, none⟩), .bool (decide (dist ≤ s7.out.length)), .int .i64 3] (by rfl) rfl rfl (by simp only [List.map_toArray, List.map_cons, List.map_nil]; rfl) ?_
  with_reducible refine (rdr_want' g b most s7 (decide (dist ≤ s7.out.length)) 3 s8 w0 w7.drew HS8.out (HR7.out.below (Below.refl _ _).drew) HB7.out.drew).mono ?_
  rintro e w8 ⟨rfl, hR8, hB8, hK8, hq8⟩
  refine ⟨_, rfl, ?_⟩
  have hcw2 : w8.cell? ⟨g, 2, none⟩ = some (.int .i64 most) := (hq8 2 (by decide)).trans hcz2
  have hcw3 : w8.cell? ⟨g, 3, none⟩ = some (.slice A3 s7.out.length c3) := (hq8 3 (by decide)).trans hcz3
  have HR8 := Aside0.mk hR8
  have HB8 := Aside0.mk hB8
  have HK8 := Aside0.mk ((HK7.out.trans (KeepT.of_below (Below.refl _ w7).drew)).trans hK8)
  clear hR8 hB8 hK8 hq8
  refine hK.out _ _ ⟨hcw3, hcw2⟩ (fun hHeld => ?_)
  clear hK K
  refine norm_ (a' := ?_) ?_ ?_
  rotate_left
  · show Act.put _ (some 53) _ = _
    simp only [Act.put, List.setIfInBounds_toArray, List.set_cons_zero, List.set_cons_succ, i64_w, i32_w]
    rfl
  refine pure_ (i := 9) (N := some 54) (v := ?_) (a' := ?_) #[true, true, true, true, true, true, true, true, true, true, false, false, false, false, false, false, false, false, false, false, false, false, false, false, false, false, false] rfl rfl (by kernel_rfl) (fun _ _ _ h => h) (Or.inl ⟨by rfl, ?_⟩) ?_ ?_
  rotate_left
  · intro w'
    go_simp
    with_reducible rfl
  rotate_left
  · simp only [Act.put, List.setIfInBounds_toArray, List.set_cons_zero, List.set_cons_succ, i64_w, i32_w]
    rfl
  refine pure_ (i := 10) (N := some 55) (v := ?_) (a' := ?_) #[true, true, true, true, true, true, true, true, true, true, true, false, false, false, false, false, false, false, false, false, false, false, false, false, false, false, false] rfl rfl (by kernel_rfl) (fun _ _ _ h => h) (Or.inl ⟨by rfl, ?_⟩) ?_ ?_
  rotate_left
  · intro w'
    go_simp
    with_reducible rfl
  rotate_left
  · simp only [Act.put, List.setIfInBounds_toArray, List.set_cons_zero, List.set_cons_succ, i64_w, i32_w]
    rfl
  refine pure_ (i := 11) (N := some 56) (v := ?_) (a' := ?_) #[true, true, true, true, true, true, true, true, true, true, true, true, false, false, false, false, false, false, false, false, false, false, false, false, false, false, false] rfl rfl (by kernel_rfl) (fun _ _ _ h => h) (Or.inl ⟨by rfl, ?_⟩) ?_ ?_
  rotate_left
  · intro w'
    go_simp
    with_reducible rfl
  rotate_left
  · simp only [Act.put, List.setIfInBounds_toArray, List.set_cons_zero, List.set_cons_succ, i64_w, i32_w]
    rfl
  refine pure_ (i := 12) (N := some 57) (v := ?_) (a' := ?_) #[true, true, true, true, true, true, true, true, true, true, true, true, true, false, false, false, false, false, false, false, false, false, false, false, false, false, false] rfl rfl (by kernel_rfl) (fun _ _ _ h => h) (Or.inl ⟨by rfl, ?_⟩) ?_ ?_
  rotate_left
  · intro w'
    go_simp
    with_reducible rfl
  rotate_left
  · simp only [Act.put, List.setIfInBounds_toArray, List.set_cons_zero, List.set_cons_succ, i64_w, i32_w]
    rfl
  refine pure_ (i := 13) (N := some 58) (v := ?_) (a' := ?_) #[true, true, true, true, true, true, true, true, true, true, true, true, true, true, false, false, false, false, false, false, false, false, false, false, false, false, false] rfl rfl (by kernel_rfl) (fun _ _ _ h => h) (Or.inl ⟨by rfl, ?_⟩) ?_ ?_
  rotate_left
  · intro w'
    go_simp
    with_reducible rfl
  rotate_left
  · simp only [Act.put, List.setIfInBounds_toArray, List.set_cons_zero, List.set_cons_succ, i64_w, i32_w]
    rfl
  refine pure_ (i := 14) (N := some 59) (v := ?_) (a' := ?_) #[true, true, true, true, true, true, true, true, true, true, true, true, true, true, true, false, false, false, false, false, false, false, false, false, false, false, false] rfl rfl (by kernel_rfl) (fun _ _ _ h => h) (Or.inl ⟨by rfl, ?_⟩) ?_ ?_
  rotate_left
  · intro w'
    go_simp
    with_reducible rfl
  rotate_left
  · simp only [Act.put, List.setIfInBounds_toArray, List.set_cons_zero, List.set_cons_succ, i64_w, i32_w]
    rfl
  refine pure_ (i := 15) (N := some 60) (v := ?_) (a' := ?_) #[true, true, true, true, true, true, true, true, true, true, true, true, true, true, true, true, false, false, false, false, false, false, false, false, false, false, false] rfl rfl (by kernel_rfl) (fun _ _ _ h => h) (Or.inl ⟨by rfl, ?_⟩) ?_ ?_
  rotate_left
  · intro w'
    go_simp
    with_reducible rfl
  rotate_left
  · simp only [Act.put, List.setIfInBounds_toArray, List.set_cons_zero, List.set_cons_succ, i64_w, i32_w]
    rfl
  refine pure_ (i := 17) (N := some 62) (v := ?_) (a' := ?_) #[true, true, true, true, true, true, true, true, true, true, true, true, true, true, true, true, false, true, false, false, false, false, false, false, false, false, false] rfl rfl (by kernel_rfl) (fun _ _ _ h => h) (Or.inl ⟨by rfl, ?_⟩) ?_ ?_
  rotate_left
  · intro w'
    go_simp
    with_reducible rfl
  rotate_left
  · simp only [Act.put, List.setIfInBounds_toArray, List.set_cons_zero, List.set_cons_succ, i64_w, i32_w]
    rfl
  refine pure_ (i := 18) (N := some 63) (v := ?_) (a' := ?_) #[true, true, true, true, true, true, true, true, true, true, true, true, true, true, true, true, false, true, true, false, false, false, false, false, false, false, false] rfl rfl (by kernel_rfl) (fun _ _ _ h => h) (Or.inl ⟨by rfl, ?_⟩) ?_ ?_
  rotate_left
  · intro w'
    go_simp
    with_reducible rfl
  rotate_left
  · simp only [Act.put, List.setIfInBounds_toArray, List.set_cons_zero, List.set_cons_succ, i64_w, i32_w]
    rfl
  refine pure_ (i := 19) (N := some 64) (v := ?_) (a' := ?_) #[true, true, true, true, true, true, true, true, true, true, true, true, true, true, true, true, false, true, true, true, false, false, false, false, false, false, false] rfl rfl (by kernel_rfl) (fun _ _ _ h => h) (Or.inl ⟨by rfl, ?_⟩) ?_ ?_
  rotate_left
  · intro w'
    go_simp
    with_reducible rfl
  rotate_left
  · simp only [Act.put, List.setIfInBounds_toArray, List.set_cons_zero, List.set_cons_succ, i64_w, i32_w]
    rfl
  refine take_ (i := 16) (N := some 61) (v := ?_) (a' := ?_) #[true, true, true, true, true, true, true, true, true, true, true, true, true, true, true, true, true, true, true, true, false, false, false, false, false, false, false] rfl rfl (by kernel_rfl) (fun _ _ _ h => h) (Or.inl ⟨by rfl, ?_⟩) hHeld ?_ ?_
  rotate_left
  · rintro w' ⟨s0, s1⟩
    go_simp
    with_reducible rfl
  rotate_left
  · simp only [Act.put, List.setIfInBounds_toArray, List.set_cons_zero, List.set_cons_succ, i64_w, i32_w]
    rfl
  refine take_ (i := 20) (N := some 65) (v := ?_) (a' := ?_) #[true, true, true, true, true, true, true, true, true, true, true, true, true, true, true, true, true, true, true, true, true, false, false, false, false, false, false] rfl rfl (by kernel_rfl) (fun _ _ _ h => h) (Or.inl ⟨by rfl, ?_⟩) hHeld ?_ ?_
  rotate_left
  · rintro w' ⟨s0, s1⟩
    go_simp
    with_reducible rfl
  rotate_left
  · simp only [Act.put, List.setIfInBounds_toArray, List.set_cons_zero, List.set_cons_succ, i64_w, i32_w]
    rfl
  refine pure_ (i := 21) (N := some 66) (v := ?_) (a' := ?_) #[true, true, true, true, true, true, true, true, true, true, true, true, true, true, true, true, true, true, true, true, true, true, false, false, false, false, false] rfl rfl (by kernel_rfl) (fun _ _ _ h => h) (Or.inl ⟨by rfl, ?_⟩) ?_ ?_
  rotate_left
  · intro w'
    go_simp
    with_reducible rfl
  rotate_left
  · simp only [Act.put, List.setIfInBounds_toArray, List.set_cons_zero, List.set_cons_succ, i64_w, i32_w]
    rfl
  refine pure_ (i := 22) (N := some 67) (v := ?_) (a' := ?_) #[true, true, true, true, true, true, true, true, true, true, true, true, true, true, true, true, true, true, true, true, true, true, true, false, false, false, false] rfl rfl (by kernel_rfl) (fun _ _ _ h => h) (Or.inl ⟨by rfl, ?_⟩) ?_ ?_
  rotate_left
  · intro w'
    go_simp
    with_reducible rfl
  rotate_left
  · simp only [Act.put, List.setIfInBounds_toArray, List.set_cons_zero, List.set_cons_succ, i64_w, i32_w]
    rfl
  refine pure_ (i := 23) (N := some 68) (v := ?_) (a' := ?_) #[true, true, true, true, true, true, true, true, true, true, true, true, true, true, true, true, true, true, true, true, true, true, true, true, false, false, false] rfl rfl (by kernel_rfl) (fun _ _ _ h => h) (Or.inl ⟨by rfl, ?_⟩) ?_ ?_
  rotate_left
  · intro w'
    go_simp
    with_reducible rfl
  rotate_left
  · simp only [Act.put, List.setIfInBounds_toArray, List.set_cons_zero, List.set_cons_succ, i64_w, i32_w]
    rfl
  refine one_ (i := 24) (N := some 69) #[true, true, true, true, true, true, true, true, true, true, true, true, true, true, true, true, true, true, true, true, true, true, true, true, true, false, false] rfl rfl (by kernel_rfl) (by decide) (fun K hK => ?_)
  refine goes_ Try.func48 (by kernel_rfl) rfl #[.pointer (some ⟨g, 0, none⟩), .bool (decide (n ≤ wrap64 (most - s7.out.length))), .int .i64 2] (by rfl) rfl rfl (by simp only [List.map_toArray, List.map_cons, List.map_nil]; rfl) ?_
  with_reducible refine (rdr_want' g b most s8 (decide (n ≤ wrap64 (most - s7.out.length))) 2 s9 w0 w8 HS9.out HR8.out HB8.out).mono ?_
  rintro e w9 ⟨rfl, hR9, hB9, hK9, hq9⟩
  refine ⟨_, rfl, ?_⟩
  have hcx2 : w9.cell? ⟨g, 2, none⟩ = some (.int .i64 most) := (hq9 2 (by decide)).trans hcw2
  have hcx3 : w9.cell? ⟨g, 3, none⟩ = some (.slice A3 s7.out.length c3) := (hq9 3 (by decide)).trans hcw3
  have HR9 := Aside0.mk hR9
  have HB9 := Aside0.mk hB9
  have HK9 := Aside0.mk (HK8.out.trans hK9)
  clear hR9 hB9 hK9 hq9
  refine hK.out _ _ ⟨hcx3, hcx2⟩ (fun hHeld => ?_)
  clear hK K
  refine norm_ (a' := ?_) ?_ ?_
  rotate_left
  · show Act.put _ (some 69) _ = _
    simp only [Act.put, List.setIfInBounds_toArray, List.set_cons_zero, List.set_cons_succ, i64_w, i32_w]
    rfl
  refine pure_ (i := 25) (N := some 70) (v := ?_) (a' := ?_) #[true, true, true, true, true, true, true, true, true, true, true, true, true, true, true, true, true, true, true, true, true, true, true, true, true, true, false] rfl rfl (by kernel_rfl) (fun _ _ _ h => h) (Or.inl ⟨by rfl, ?_⟩) ?_ ?_
  rotate_left
  · intro w'
    go_simp
    with_reducible rfl
  rotate_left
  · simp only [Act.put, List.setIfInBounds_toArray, List.set_cons_zero, List.set_cons_succ, i64_w, i32_w]
    rfl
  refine pure_ (i := 26) (N := some 71) (v := ?_) (a' := ?_) #[true, true, true, true, true, true, true, true, true, true, true, true, true, true, true, true, true, true, true, true, true, true, true, true, true, true, true] rfl rfl (by kernel_rfl) (fun _ _ _ h => h) (Or.inl ⟨by rfl, ?_⟩) ?_ ?_
  rotate_left
  · intro w'
    go_simp
    with_reducible rfl
  rotate_left
  · simp only [Act.put, List.setIfInBounds_toArray, List.set_cons_zero, List.set_cons_succ, i64_w, i32_w]
    rfl
  refine done_ (by kernel_rfl) ?_
  clear hcw2 hcw3 hcx2 hcx3 hcz2 hcz3 HR8 HB8 HK8 HR7 HB7 HK7 HS8 HS9 d0 h0
  have h := H9.out
  unfold pieceH at h
  by_cases h0 : s9.er = 0
  rotate_left
  · have d0 : (s9.er == 0) = false := beq_eq_false_iff_ne.2 h0
    have dn : (!(s9.er == 0)) = true := by rw [d0]; rfl
    rw [if_pos h0] at h
    injection h with h
    subst h
    simp only [d0, Bool.not_false]
    go_wp2_with fail
    ((try simp only [Exit.inBlock, Exit.then]); refine bodyPost_ret (results_none rfl _ _ _) rfl ?_)
    exact ⟨rfl, HR9.out, HB9.out, HK9.out⟩
  have d0 : (s9.er == 0) = true := beq_iff_eq.2 h0
  have dn : (!(s9.er == 0)) = false := by rw [d0]; rfl
  rw [if_neg (by rw [h0]; simp)] at h
  by_cases hn : 0 ≤ n ∧ n ≤ 1000000
  rotate_left
  · rw [if_neg hn] at h; cases h
  rw [if_pos hn] at h
  obtain ⟨m, rfl⟩ : ∃ m : Nat, n = (m : Int) := ⟨n.toNat, by omega⟩
  rw [Int.toNat_natCast] at h
  have hm : m ≤ 1000000 := by omega
  have HL := Aside0.mk h
  clear h hn H9 h0
  simp only [d0, Bool.not_true]
  go_wp2_with fail
  go_loopg [73] m (fun kq v73 w' => ∃ (i : Nat) (si : RSt), v73 = .int .i64 i ∧ i ≤ m ∧ Aside0 (kq + i = m) ∧ Aside0 (copyL most dist (m - i) si = some sr) ∧ Aside0 (Rdr w0 w' g b most si) ∧ Aside0 (Below w0.heap.size w0 w') ∧ Aside0 (KeepT w w'))
  case atStart => exact ⟨0, s9, rfl, Nat.zero_le _, ⟨rfl⟩, HL, HR9, HB9, HK9⟩
  case round =>
    clear HL HR9 HB9 HK9
    obtain ⟨i, si, rfl, hi, HG, HL, HR, HB, HK⟩ := hrel
    by_cases hlt : i < m
    · have h := HL.out
      rw [show m - i = (m - i - 1) + 1 from by omega] at h
      unfold copyL at h
      by_cases hd : 1 ≤ dist ∧ dist ≤ si.out.length ∧ si.out.length ≤ 1000000000
      · rw [if_pos hd] at h
        obtain ⟨dd, rfl⟩ : ∃ dd : Nat, dist = (dd : Int) := ⟨dist.toNat, by omega⟩
        obtain ⟨k, hk⟩ : ∃ k, k = si.out.length - dd := ⟨_, rfl⟩
        have hkl : k < si.out.length := by omega
        have hke : (si.out.length : Int) - (dd : Int) = (k : Int) := by omega
        rw [hke] at h
        have HOL := Aside0.mk hd.2.2
        obtain ⟨A0, c0, A3, c3, hg, hge, hb, hc, ho⟩ := HR.out.cells
        obtain ⟨ad, e3, hcell⟩ := Kd.at_int (Kd.R_reads' ho).2.2 (k : Int) (by omega) (by omega)
        subst e3
        rw [Int.toNat_natCast] at hcell
        have hcz3 : wr.cell? ⟨g, 3, none⟩ = some (.slice (some ad) si.out.length c3) := (blk_cell hg 3).trans rfl
        have hw1 : IntKind.i64.wrap ((si.out.length : Int) - (dd : Int)) = (k : Int) := by rw [hke]; exact IntWalk.i64_in (k : Int) (by omega)
        have hw2 : wrap64 ((si.out.length : Int) - (dd : Int)) = (k : Int) := by rw [hke]; unfold wrap64; omega
        have hk0 : (0 : Int) ≤ (k : Int) := by omega
        have hk1 : (k : Int) < (si.out.length : Int) := by omega
        have hk2 : ((k : Int)).toNat = k := Int.toNat_natCast k
        have HL2 := Aside0.mk h
        clear hg hb hc ho h HL hke hk hd
        generalize rd si.out (k : Int) = x at hcell HL2
        go_upto_region 9 with fail
        refine start_ (n := 15) (S := fun w' => w'.cell? ⟨g, 3, none⟩ = some (.slice (some ad) si.out.length c3) ∧ w'.cell? (ad.add k) = some (.int .u8 x)) (ds := [14]) #[false, false, false, false, false, false, false, false, false, false, false, false, false, false, false] (by kernel_rfl) rfl rfl ⟨hcz3, hcell⟩ (fun hHeld => ?_)
        refine pure_ (i := 0) (N := some 75) (v := ?_) (a' := ?_) #[true, false, false, false, false, false, false, false, false, false, false, false, false, false, false] rfl rfl (by kernel_rfl) (fun _ _ _ h => h) (Or.inl ⟨by rfl, ?_⟩) ?_ ?_
        rotate_left
        · intro w'
          go_simp
          with_reducible rfl
        rotate_left
        · simp only [Act.put, List.setIfInBounds_toArray, List.set_cons_zero, List.set_cons_succ, i64_w, i32_w]
          rfl
        refine pure_ (i := 1) (N := some 76) (v := ?_) (a' := ?_) #[true, true, false, false, false, false, false, false, false, false, false, false, false, false, false] rfl rfl (by kernel_rfl) (fun _ _ _ h => h) (Or.inl ⟨by rfl, ?_⟩) ?_ ?_
        rotate_left
        · intro w'
          go_simp
          with_reducible rfl
        rotate_left
        · simp only [Act.put, List.setIfInBounds_toArray, List.set_cons_zero, List.set_cons_succ, i64_w, i32_w]
          rfl
        refine pure_ (i := 2) (N := some 77) (v := ?_) (a' := ?_) #[true, true, true, false, false, false, false, false, false, false, false, false, false, false, false] rfl rfl (by kernel_rfl) (fun _ _ _ h => h) (Or.inl ⟨by rfl, ?_⟩) ?_ ?_
        rotate_left
        · intro w'
          go_simp
          with_reducible rfl
        rotate_left
        · simp only [Act.put, List.setIfInBounds_toArray, List.set_cons_zero, List.set_cons_succ, i64_w, i32_w]
          rfl
        refine pure_ (i := 3) (N := some 78) (v := ?_) (a' := ?_) #[true, true, true, true, false, false, false, false, false, false, false, false, false, false, false] rfl rfl (by kernel_rfl) (fun _ _ _ h => h) (Or.inl ⟨by rfl, ?_⟩) ?_ ?_
        rotate_left
        · intro w'
          go_simp
          with_reducible rfl
        rotate_left
        · simp only [Act.put, List.setIfInBounds_toArray, List.set_cons_zero, List.set_cons_succ, i64_w, i32_w]
          rfl
        refine pure_ (i := 5) (N := some 80) (v := ?_) (a' := ?_) #[true, true, true, true, false, true, false, false, false, false, false, false, false, false, false] rfl rfl (by kernel_rfl) (fun _ _ _ h => h) (Or.inl ⟨by rfl, ?_⟩) ?_ ?_
        rotate_left
        · intro w'
          go_simp
          with_reducible rfl
        rotate_left
        · simp only [Act.put, List.setIfInBounds_toArray, List.set_cons_zero, List.set_cons_succ, i64_w, i32_w]
          rfl
        refine pure_ (i := 6) (N := some 81) (v := ?_) (a' := ?_) #[true, true, true, true, false, true, true, false, false, false, false, false, false, false, false] rfl rfl (by kernel_rfl) (fun _ _ _ h => h) (Or.inl ⟨by rfl, ?_⟩) ?_ ?_
        rotate_left
        · intro w'
          go_simp
          with_reducible rfl
        rotate_left
        · simp only [Act.put, List.setIfInBounds_toArray, List.set_cons_zero, List.set_cons_succ, i64_w, i32_w]
          rfl
        refine pure_ (i := 7) (N := some 82) (v := ?_) (a' := ?_) #[true, true, true, true, false, true, true, true, false, false, false, false, false, false, false] rfl rfl (by kernel_rfl) (fun _ _ _ h => h) (Or.inl ⟨by rfl, ?_⟩) ?_ ?_
        rotate_left
        · intro w'
          go_simp
          with_reducible rfl
        rotate_left
        · simp only [Act.put, List.setIfInBounds_toArray, List.set_cons_zero, List.set_cons_succ, i64_w, i32_w]
          rfl
        refine pure_ (i := 10) (N := some 85) (v := ?_) (a' := ?_) #[true, true, true, true, false, true, true, true, false, false, true, false, false, false, false] rfl rfl (by kernel_rfl) (fun _ _ _ h => h) (Or.inl ⟨by rfl, ?_⟩) ?_ ?_
        rotate_left
        · intro w'
          go_simp
          with_reducible rfl
        rotate_left
        · simp only [Act.put, List.setIfInBounds_toArray, List.set_cons_zero, List.set_cons_succ, i64_w, i32_w]
          rfl
        refine take_ (i := 4) (N := some 79) (v := ?_) (a' := ?_) #[true, true, true, true, true, true, true, true, false, false, true, false, false, false, false] rfl rfl (by kernel_rfl) (fun _ _ _ h => h) (Or.inl ⟨by rfl, ?_⟩) hHeld ?_ ?_
        rotate_left
        · rintro w' ⟨s0, s1⟩
          go_simp
          with_reducible rfl
        rotate_left
        · simp only [Act.put, List.setIfInBounds_toArray, List.set_cons_zero, List.set_cons_succ, i64_w, i32_w]
          rfl
        refine take_ (i := 8) (N := some 83) (v := ?_) (a' := ?_) #[true, true, true, true, true, true, true, true, true, false, true, false, false, false, false] rfl rfl (by kernel_rfl) (fun _ _ _ h => h) (Or.inl ⟨by rfl, ?_⟩) hHeld ?_ ?_
        rotate_left
        · rintro w' ⟨s0, s1⟩
          go_simp
          with_reducible rfl
        rotate_left
        · simp only [Act.put, List.setIfInBounds_toArray, List.set_cons_zero, List.set_cons_succ, i64_w, i32_w]
          rfl
        refine pure_ (i := 9) (N := some 84) (v := ?_) (a' := ?_) #[true, true, true, true, true, true, true, true, true, true, true, false, false, false, false] rfl rfl (by kernel_rfl) (fun _ _ _ h => h) (Or.inl ⟨by rfl, ?_⟩) ?_ ?_
        rotate_left
        · intro w'
          go_simp
          with_reducible rfl
        rotate_left
        · simp only [Act.put, List.setIfInBounds_toArray, List.set_cons_zero, List.set_cons_succ, i64_w, i32_w]
          rfl
        refine pure_ (i := 11) (N := some 86) (v := ?_) (a' := ?_) #[true, true, true, true, true, true, true, true, true, true, true, true, false, false, false] rfl rfl (by kernel_rfl) (fun _ _ _ h => h) (Or.inl ⟨by rfl, ?_⟩) ?_ ?_
        rotate_left
        · intro w'
          go_simp
          with_reducible rfl
        rotate_left
        · simp only [Act.put, List.setIfInBounds_toArray, List.set_cons_zero, List.set_cons_succ, i64_w, i32_w]
          rfl
        refine pure_ (i := 12) (N := some 87) (v := ?_) (a' := ?_) #[true, true, true, true, true, true, true, true, true, true, true, true, true, false, false] rfl rfl (by kernel_rfl) (fun _ _ _ h => h) (Or.inl ⟨by rfl, ?_⟩) ?_ ?_
        rotate_left
        · intro w'
          go_simp
          with_reducible rfl
        rotate_left
        · simp only [Act.put, List.setIfInBounds_toArray, List.set_cons_zero, List.set_cons_succ, i64_w, i32_w]
          rfl
        refine take_ (i := 13) (N := some 88) (v := ?_) (a' := ?_) #[true, true, true, true, true, true, true, true, true, true, true, true, true, true, false] rfl rfl (by kernel_rfl) (fun _ _ _ h => h) (Or.inl ⟨by rfl, ?_⟩) hHeld ?_ ?_
        rotate_left
        · rintro w' ⟨s0, s1⟩
          go_simp
          with_reducible rfl
        rotate_left
        · simp only [Act.put, List.setIfInBounds_toArray, List.set_cons_zero, List.set_cons_succ, i64_w, i32_w]
          rfl
        refine last_ (i := 14) (N := some 89) #[true, true, true, true, true, true, true, true, true, true, true, true, true, true, true] rfl rfl (by kernel_rfl) (by decide) (fun K hK => ?_)
        refine goes_ Try.func62 (by kernel_rfl) rfl #[.pointer (some ⟨g, 0, none⟩), .int .u8 x] (by rfl) rfl rfl (by simp only [List.map_toArray, List.map_cons, List.map_nil]; rfl) ?_
        with_reducible refine (rdr_tell g b most si x w0 wr.drew (HR.out.below (Below.refl _ _).drew) HB.out.drew HOL.out).mono ?_
        rintro e w10 ⟨rfl, hR10, hB10, hK10⟩
        refine ⟨_, rfl, ?_⟩
        have HR10 := Aside0.mk hR10
        have HB10 := Aside0.mk hB10
        have HK10 := Aside0.mk ((HK.out.trans (KeepT.of_below (Below.refl _ wr).drew)).trans hK10)
        clear hR10 hB10 hK10
        refine hK.out _ _ ?_
        clear hK K
        refine norm_ (a' := ?_) ?_ ?_
        rotate_left
        · show Act.put _ (some 89) _ = _
          simp only [Act.put, List.setIfInBounds_toArray, List.set_cons_zero, List.set_cons_succ, i64_w, i32_w]
          rfl
        refine done_ (by kernel_rfl) ?_
        clear hw1 hw2 hk0 hk1 hk2
        go_wp2_with fail
        go_roundg (gk - 1)
        case measure => have := HG.out; omega
        case rel => exact ⟨i + 1, _, by go_num, by omega, ⟨by have := HG.out; omega⟩, ⟨by rw [show m - (i + 1) = m - i - 1 from by omega]; exact HL2.out⟩, HR10, HB10, HK10⟩
      · rw [if_neg hd] at h; cases h
    · have hi2 : i = m := by omega
      subst hi2
      go_wp2_with fail
      go_end0
      have h := HL.out
      rw [Nat.sub_self] at h
      unfold copyL at h
      injection h with h
      subst h
      exact ⟨rfl, HR.out, HB.out, HK.out⟩

-- PART
end Go.Proofs.Ytcjijhjdkgjgeaa.P
