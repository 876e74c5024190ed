-- Written by a program of this session out of the translation. Lean checks it.
import Derived.Test.YtcjijhjdkgjgeaaPx0
import Derived.Test.YtcjijhjdkgjgeaaPx1
import Derived.Test.YtcjijhjdkgjgeaaPx2
import Derived.Test.YtcjijhjdkgjgeaaPx4
import Derived.Test.YtcjijhjdkgjgeaaPx5
import Derived.Test.YtcjijhjdkgjgeaaPx7
import Derived.Test.YtcjijhjdkgjgeaaPx8
import Derived.Test.YtcjijhjdkgjgeaaPx13
import Derived.Test.YtcjijhjdkgjgeaaPx16
import Derived.Test.YtcjijhjdkgjgeaaPx20
namespace Go.Proofs.Ytcjijhjdkgjgeaa.P
open Go.RowKit Go.Proofs.YtcjijhjdkgjgeaaW.PrintWords Go.Proofs.YtcjijhjdkgjgeaaW.PrintLast Go.Proofs.YtcjijhjdkgjgeaaW.PrintMore
attribute [local go_sem] max2_int min2_int max_two min_two max_three min_three max_four min_four   -- for this text's walks alone
set_option linter.unusedVariables false
set_option linter.unusedSimpArgs false

-- PART
/-! ### grow_reader_stream: function 29 (by hand) -/
/-- A block of the fixed lengths. -/
def fixedS (b : List Int) (most : Int) (M : Nat) (s : RSt) : Option RSt :=
  (sym_Fixed.f 1000).bind fun f => if rightB f.1 = true ∧ rightB f.2 = true then codedL (fun n => (openF f.1 n : Int)) (symsTo f.1 f.1.length) (fun n => (openF f.2 n : Int)) (symsTo f.2 f.2.length) b most M s else none
/-- A block of a kind. -/
def blockS (b : List Int) (most : Int) (N M : Nat) (kind : Int) (s : RSt) : Option RSt :=
  if kind = 0 then storedS b most s else if kind = 1 then fixedS b most M s else if kind = 2 then dynS b most N M s else some (wantS s false 3)
/-- Blocks up to the last one. -/
def streamL (b : List Int) (most : Int) (N M : Nat) : Nat → Int → RSt → Option RSt
  | 0, _, _ => none
  | n + 1, last, s => if last = 0 ∧ s.er = 0 then (takeS b s 1).bind fun r1 => (takeS b r1.2 2).bind fun r2 =>
      if r2.2.er ≠ 0 then some r2.2 else (blockS b most N M r2.1 r2.2).bind fun s3 => streamL b most N M n r1.1 { s3 with bl := wrap64 (s3.bl + 1) }
    else some s
def streamS (b : List Int) (most : Int) (N M K : Nat) (s : RSt) : Option RSt :=
  (streamL b most N M K 0 s).bind fun s1 => if s1.er ≠ 0 then some s1 else (padS b s1).bind fun s2 => some (wantS s2 (s2.pos == wrap64 (8 * b.length)) 3)
set_option maxHeartbeats 8000000 in
set_option maxRecDepth 100000 in
theorem rdr_stream (g : Nat) (b : List Int) (most : Int) (N M K : Nat) (s sr : RSt) (w0 w : World) (hR : Rdr w0 w g b most s) (hB : Below w0.heap.size w0 w) (h : streamS b most N M K s = some sr) :
    Calls Try.prog 29 #[.pointer (some ⟨g, 0, none⟩)] w fun r w' => r = .returned (.tuple #[]) ∧ Rdr w0 w' g b most sr ∧ Below w0.heap.size w0 w' ∧ KeepT w w' := by
  unfold streamS at h
  obtain ⟨s1, hl, h⟩ := Option.bind_eq_some_iff.1 h
  have HL := Aside0.mk hl
  have HE := Aside0.mk h
  have HR := Aside0.mk hR
  have HB := Aside0.mk hB
  clear h hl hR hB
  go_enter Try.func29, Try.ntmps29
  go_wp2_with fail
  go_loopg [2] K (fun kq v2 w' => ∃ (la : Int) (si : RSt), v2 = .int .i64 la ∧ Aside0 (streamL b most N M kq la si = some s1) ∧ Aside0 (Rdr w0 w' g b most si) ∧ Aside0 (Below w0.heap.size w0 w') ∧ Aside0 (KeepT w w'))
  case atStart => exact ⟨0, s, rfl, HL, HR, HB, ⟨KeepT.refl _⟩⟩
  case round =>
    clear HL HR HB
    obtain ⟨la, si, rfl, HL, HR, HB, HK⟩ := hrel
    have h := HL.out
    match gk, h with
    | 0, h => unfold streamL at h; cases h
    | n + 1, h =>
      unfold streamL at h
      obtain ⟨A0, c0, A3, c3, hg, hge, hb, hc, ho⟩ := HR.out.cells
      have hcz5 : wr.cell? ⟨g, 5, none⟩ = some (.int .i64 si.er) := (blk_cell hg 5).trans rfl
      clear hg hb ho hc
      by_cases hgo : la = 0 ∧ si.er = 0
      rotate_left
      · rw [if_neg hgo] at h
        injection h with h
        subst h
        have HX := Aside0.mk hgo
        have h := HE.out
        -- the loop's end: what fills the last byte
        by_cases he : si.er = 0
        rotate_left
        · have d1 : (si.er == 0) = false := beq_eq_false_iff_ne.2 he
          rw [if_pos he] at h
          injection h with h
          subst h
          by_cases hla : la = 0
          · have d0 : (la == 0) = true := beq_iff_eq.2 hla
            go_wp2_with fail
            go_end0
            exact ⟨rfl, HR.out, HB.out, HK.out⟩
          · have d0 : (la == 0) = false := beq_eq_false_iff_ne.2 hla
            go_wp2_with fail
            go_end0
            exact ⟨rfl, HR.out, HB.out, HK.out⟩
        have d1 : (si.er == 0) = true := beq_iff_eq.2 he
        have d0 : (la == 0) = false := beq_eq_false_iff_ne.2 (fun hh => HX.out ⟨hh, he⟩)
        rw [if_neg (by rw [he]; simp)] at h
        obtain ⟨s2, hp, h⟩ := Option.bind_eq_some_iff.1 h
        injection h with h
        have HP := Aside0.mk hp
        have HF := Aside0.mk h
        clear h hp HL hgo he HE
        go_wp2_with fail
        refine (rdr_pad g b most si s2 w0 wr HR.out HB.out HP.out).mono ?_
        rintro e wq ⟨rfl, hRq, hBq, hKq⟩
        have HRq := Aside0.mk hRq
        have HBq := Aside0.mk hBq
        have HKq := Aside0.mk (HK.out.trans hKq)
        clear hRq hBq hKq HR HB HK hcz5
        obtain ⟨A0, c0, A3, c3, hg, hge, hb, hc, ho⟩ := HRq.out.cells
        have hcz1 : wq.cell? ⟨g, 1, none⟩ = some (.int .i64 s2.pos) := (blk_cell hg 1).trans rfl
        have hcz0 : wq.cell? ⟨g, 0, none⟩ = some (.slice A0 b.length c0) := (blk_cell hg 0).trans rfl
        clear hg hb ho hc
        go_upto_region 17 with fail
        refine start_ (n := 13) (S := fun w' => w'.cell? ⟨g, 1, none⟩ = some (.int .i64 s2.pos) ∧ w'.cell? ⟨g, 0, none⟩ = some (.slice A0 b.length c0)) (ds := [12]) #[false, false, false, false, false, false, false, false, false, false, false, false, false] (by kernel_rfl) rfl rfl ⟨hcz1, hcz0⟩ (fun hHeld => ?_)
        refine pure_ (i := 0) (N := some 61) (v := ?_) (a' := ?_) #[true, false, false, false, false, false, false, false, false, false, false, false, false] rfl rfl (by kernel_rfl) (fun _ _ _ h => h) (Or.inl ⟨by rfl, ?_⟩) ?_ ?_
        rotate_left
        · intro w'
          go_simp
          with_reducible rfl
        rotate_left
        · simp only [Act.put, List.setIfInBounds_toArray, List.set_cons_zero, List.set_cons_succ, i64_w, i32_w]
          rfl
        refine pure_ (i := 1) (N := some 62) (v := ?_) (a' := ?_) #[true, true, false, false, false, false, false, false, false, false, false, false, false] rfl rfl (by kernel_rfl) (fun _ _ _ h => h) (Or.inl ⟨by rfl, ?_⟩) ?_ ?_
        rotate_left
        · intro w'
          go_simp
          with_reducible rfl
        rotate_left
        · simp only [Act.put, List.setIfInBounds_toArray, List.set_cons_zero, List.set_cons_succ, i64_w, i32_w]
          rfl
        refine pure_ (i := 2) (N := some 63) (v := ?_) (a' := ?_) #[true, true, true, false, false, false, false, false, false, false, false, false, false] rfl rfl (by kernel_rfl) (fun _ _ _ h => h) (Or.inl ⟨by rfl, ?_⟩) ?_ ?_
        rotate_left
        · intro w'
          go_simp
          with_reducible rfl
        rotate_left
        · simp only [Act.put, List.setIfInBounds_toArray, List.set_cons_zero, List.set_cons_succ, i64_w, i32_w]
          rfl
        refine pure_ (i := 3) (N := some 64) (v := ?_) (a' := ?_) #[true, true, true, true, false, false, false, false, false, false, false, false, false] rfl rfl (by kernel_rfl) (fun _ _ _ h => h) (Or.inl ⟨by rfl, ?_⟩) ?_ ?_
        rotate_left
        · intro w'
          go_simp
          with_reducible rfl
        rotate_left
        · simp only [Act.put, List.setIfInBounds_toArray, List.set_cons_zero, List.set_cons_succ, i64_w, i32_w]
          rfl
        refine pure_ (i := 5) (N := some 66) (v := ?_) (a' := ?_) #[true, true, true, true, false, true, false, false, false, false, false, false, false] rfl rfl (by kernel_rfl) (fun _ _ _ h => h) (Or.inl ⟨by rfl, ?_⟩) ?_ ?_
        rotate_left
        · intro w'
          go_simp
          with_reducible rfl
        rotate_left
        · simp only [Act.put, List.setIfInBounds_toArray, List.set_cons_zero, List.set_cons_succ, i64_w, i32_w]
          rfl
        refine pure_ (i := 6) (N := some 67) (v := ?_) (a' := ?_) #[true, true, true, true, false, true, true, false, false, false, false, false, false] rfl rfl (by kernel_rfl) (fun _ _ _ h => h) (Or.inl ⟨by rfl, ?_⟩) ?_ ?_
        rotate_left
        · intro w'
          go_simp
          with_reducible rfl
        rotate_left
        · simp only [Act.put, List.setIfInBounds_toArray, List.set_cons_zero, List.set_cons_succ, i64_w, i32_w]
          rfl
        refine pure_ (i := 7) (N := some 68) (v := ?_) (a' := ?_) #[true, true, true, true, false, true, true, true, false, false, false, false, false] rfl rfl (by kernel_rfl) (fun _ _ _ h => h) (Or.inl ⟨by rfl, ?_⟩) ?_ ?_
        rotate_left
        · intro w'
          go_simp
          with_reducible rfl
        rotate_left
        · simp only [Act.put, List.setIfInBounds_toArray, List.set_cons_zero, List.set_cons_succ, i64_w, i32_w]
          rfl
        refine take_ (i := 4) (N := some 65) (v := ?_) (a' := ?_) #[true, true, true, true, true, true, true, true, false, false, false, false, false] rfl rfl (by kernel_rfl) (fun _ _ _ h => h) (Or.inl ⟨by rfl, ?_⟩) hHeld ?_ ?_
        rotate_left
        · rintro w' ⟨s0, s1⟩
          go_simp
          with_reducible rfl
        rotate_left
        · simp only [Act.put, List.setIfInBounds_toArray, List.set_cons_zero, List.set_cons_succ, i64_w, i32_w]
          rfl
        refine take_ (i := 8) (N := some 69) (v := ?_) (a' := ?_) #[true, true, true, true, true, true, true, true, true, false, false, false, false] rfl rfl (by kernel_rfl) (fun _ _ _ h => h) (Or.inl ⟨by rfl, ?_⟩) hHeld ?_ ?_
        rotate_left
        · rintro w' ⟨s0, s1⟩
          go_simp
          with_reducible rfl
        rotate_left
        · simp only [Act.put, List.setIfInBounds_toArray, List.set_cons_zero, List.set_cons_succ, i64_w, i32_w]
          rfl
        refine pure_ (i := 9) (N := some 70) (v := ?_) (a' := ?_) #[true, true, true, true, true, true, true, true, true, true, false, false, false] rfl rfl (by kernel_rfl) (fun _ _ _ h => h) (Or.inl ⟨by rfl, ?_⟩) ?_ ?_
        rotate_left
        · intro w'
          go_simp
          with_reducible rfl
        rotate_left
        · simp only [Act.put, List.setIfInBounds_toArray, List.set_cons_zero, List.set_cons_succ, i64_w, i32_w]
          rfl
        refine pure_ (i := 10) (N := some 71) (v := ?_) (a' := ?_) #[true, true, true, true, true, true, true, true, true, true, true, false, false] rfl rfl (by kernel_rfl) (fun _ _ _ h => h) (Or.inl ⟨by rfl, ?_⟩) ?_ ?_
        rotate_left
        · intro w'
          go_simp
          with_reducible rfl
        rotate_left
        · simp only [Act.put, List.setIfInBounds_toArray, List.set_cons_zero, List.set_cons_succ, i64_w, i32_w]
          rfl
        refine pure_ (i := 11) (N := some 72) (v := ?_) (a' := ?_) #[true, true, true, true, true, true, true, true, true, true, true, true, false] rfl rfl (by kernel_rfl) (fun _ _ _ h => h) (Or.inl ⟨by rfl, ?_⟩) ?_ ?_
        rotate_left
        · intro w'
          go_simp
          with_reducible rfl
        rotate_left
        · simp only [Act.put, List.setIfInBounds_toArray, List.set_cons_zero, List.set_cons_succ, i64_w, i32_w]
          rfl
        refine last_ (i := 12) (N := some 73) #[true, true, true, true, true, true, true, true, true, true, true, true, true] rfl rfl (by kernel_rfl) (by decide) (fun K hK => ?_)
        refine goes_ Try.func48 (by kernel_rfl) rfl #[.pointer (some ⟨g, 0, none⟩), .bool (s2.pos == wrap64 (8 * b.length)), .int .i64 3] (by rfl) rfl rfl (by simp only [List.map_toArray, List.map_cons, List.map_nil]; rfl) ?_
        with_reducible refine (rdr_want g b most s2 (s2.pos == wrap64 (8 * b.length)) 3 w0 wq.drew (HRq.out.below (Below.refl _ _).drew) HBq.out.drew).mono ?_
        rintro e w10 ⟨rfl, hR10, hB10, hK10⟩
        refine ⟨_, rfl, ?_⟩
        have HR10 := Aside0.mk hR10
        have HB10 := Aside0.mk hB10
        have HK10 := Aside0.mk ((HKq.out.trans (KeepT.of_below (Below.refl _ wq).drew)).trans hK10)
        clear hR10 hB10 hK10
        refine hK.out _ _ ?_
        clear hK K
        refine norm_ (a' := ?_) ?_ ?_
        rotate_left
        · show Act.put _ (some 73) _ = _
          simp only [Act.put, List.setIfInBounds_toArray, List.set_cons_zero, List.set_cons_succ, i64_w, i32_w]
          rfl
        refine done_ (by kernel_rfl) ?_
        rw [HF.out] at HR10
        go_wp2_with fail
        go_end0
        exact ⟨rfl, HR10.out, HB10.out, HK10.out⟩
      rw [if_pos hgo] at h
      have d0 : (la == 0) = true := beq_iff_eq.2 hgo.1
      have d1 : (si.er == 0) = true := beq_iff_eq.2 hgo.2
      obtain ⟨⟨v1, t1⟩, ht1, h⟩ := Option.bind_eq_some_iff.1 h
      obtain ⟨⟨kind, t2⟩, ht2, h⟩ := Option.bind_eq_some_iff.1 h
      have HT1 := Aside0.mk ht1
      have HT2 := Aside0.mk ht2
      have HH := Aside0.mk h
      clear h ht1 ht2 HL hgo
      go_wp2_with fail
      refine (rdr_take g b most si 1 v1 t1 w0 wr HR.out HB.out HT1.out).mono ?_
      rintro e w2 ⟨rfl, hR2, hB2, hK2⟩
      have HR2 := Aside0.mk hR2
      have HB2 := Aside0.mk hB2
      have HK2 := Aside0.mk (HK.out.trans hK2)
      clear hR2 hB2 hK2 HR HB HK hcz5 d0 d1
      go_wp2_with fail
      refine (rdr_take g b most t1 2 kind t2 w0 w2 HR2.out HB2.out HT2.out).mono ?_
      rintro e w3 ⟨rfl, hR3, hB3, hK3⟩
      have HR3 := Aside0.mk hR3
      have HB3 := Aside0.mk hB3
      have HK3 := Aside0.mk (HK2.out.trans hK3)
      clear hR3 hB3 hK3 HR2 HB2 HK2
      obtain ⟨A0, c0, A3, c3, hg, hge, hb, hc, ho⟩ := HR3.out.cells
      have hcz5 : w3.cell? ⟨g, 5, none⟩ = some (.int .i64 t2.er) := (blk_cell hg 5).trans rfl
      clear hg hb ho hc
      have h := HH.out
      by_cases he : t2.er = 0
      rotate_left
      · have d1 : (t2.er != 0) = true := bne_iff_ne.2 he
        rw [if_pos he] at h
        injection h with h
        subst h
        have h := HE.out
        rw [if_pos he] at h
        injection h with h
        subst h
        go_wp2_with fail
        ((try simp only [Exit.inBlock, Exit.then]); refine bodyPost_ret (results_none rfl _ _ _) rfl ?_)
        exact ⟨rfl, HR3.out, HB3.out, HK3.out⟩
      have d1 : (t2.er != 0) = false := by rw [he]; rfl
      rw [if_neg (by rw [he]; simp)] at h
      obtain ⟨s3, hbl, h⟩ := Option.bind_eq_some_iff.1 h
      have HBl := Aside0.mk hbl
      have HL := Aside0.mk h
      clear h hbl HH he
      go_upto_block 2 with fail
      clear hcz5 d1
      go_cut [3, 4, 5, 24, 25, 26, 27, 28, 29, 30, 31, 32, 33, 34, 35, 36, 37, 38, 39, 40, 41, 42, 43, 44, 45, 46] (fun v3 v4 v5 v24 v25 v26 v27 v28 v29 v30 v31 v32 v33 v34 v35 v36 v37 v38 v39 v40 v41 v42 v43 v44 v45 v46 wc => Aside0 (Rdr w0 wc g b most s3) ∧ Aside0 (Below w0.heap.size w0 wc) ∧ Aside0 (KeepT w wc))
      case first =>
        clear HL HE
        have h := HBl.out
        unfold blockS at h
        by_cases k0 : kind = 0
        · have d0 : (kind == 0) = true := beq_iff_eq.2 k0
          rw [if_pos k0] at h
          have HS := Aside0.mk h
          clear h HBl
          go_wp2_with fail
          refine (rdr_stored g b most t2 s3 w0 w3 HR3.out HB3.out HS.out).mono ?_
          rintro e wz ⟨rfl, hRz, hBz, hKz⟩
          have HRz := Aside0.mk hRz
          have HBz := Aside0.mk hBz
          have HKz := Aside0.mk (HK3.out.trans hKz)
          clear hRz hBz hKz
          go_wp2_with fail
          go_meet
          case rel => exact ⟨HRz, HBz, HKz⟩
        rw [if_neg k0] at h
        have d0 : (kind == 0) = false := beq_eq_false_iff_ne.2 k0
        by_cases k1 : kind = 1
        · have d1 : (kind == 1) = true := beq_iff_eq.2 k1
          rw [if_pos k1] at h
          unfold fixedS at h
          obtain ⟨⟨fl, fd⟩, hf, h⟩ := Option.bind_eq_some_iff.1 h
          by_cases hrr : rightB fl = true ∧ rightB fd = true
          rotate_left
          · rw [if_neg hrr] at h; cases h
          rw [if_pos hrr] at h
          obtain ⟨x1, x2⟩ := (rightB_iff fl).1 hrr.1
          obtain ⟨x3, x4⟩ := (rightB_iff fd).1 hrr.2
          have HX2 := Aside0.mk x2
          have HX4 := Aside0.mk x4
          have HF := Aside0.mk hf
          have HS := Aside0.mk h
          clear h hf hrr HBl x2 x4
          go_wp2_with fail
          refine (sym_Fixed.calls 1000 fl fd w3 HF.out).mono ?_
          rintro e w4 ⟨vl, vd, rfl, hol, hod, hb⟩
          obtain ⟨Al, cl, el⟩ := Kd.R_slice hol
          obtain ⟨Ad, cd, ed⟩ := Kd.R_slice hod
          subst el ed
          have HOl := Aside0.mk hol
          have HOd := Aside0.mk hod
          have HR4 := Aside0.mk (HR3.out.below hb)
          have HB4 := Aside0.mk (show Below w0.heap.size w0 w4 from below_then HB3.out HB3.out.size hb)
          have HK4 := Aside0.mk (HK3.out.below hb)
          clear hol hod hb HR3 HB3 HK3
          go_wp2_with fail
          refine (open_book Al cl fl w4 (Kd.R_reads' HOl.out).2.2 (Kd.R_reads' HOl.out).2.1 HX2.out (by omega)).mono ?_
          rintro e w5 ⟨g1, rfl, hk1, hb⟩
          have HA1 := Aside0.mk hk1
          have HR5 := Aside0.mk (HR4.out.below hb)
          have HB5 := Aside0.mk (show Below w0.heap.size w0 w5 from below_then HB4.out HB4.out.size hb)
          have HOd5 := Aside0.mk (Kd.R_below HOd.out hb)
          have HK5 := Aside0.mk (HK4.out.below hb)
          clear hk1 hb HR4 HB4 HK4 HOd HOl
          go_wp2_with fail
          refine (open_book Ad cd fd w5 (Kd.R_reads' HOd5.out).2.2 (Kd.R_reads' HOd5.out).2.1 HX4.out (by omega)).mono ?_
          rintro e w6 ⟨g2, rfl, hk2, hb⟩
          have HA2 := Aside0.mk hk2
          have HA1b := Aside0.mk (HA1.out.below hb)
          have HR6 := Aside0.mk (HR5.out.below hb)
          have HB6 := Aside0.mk (show Below w0.heap.size w0 w6 from below_then HB5.out HB5.out.size hb)
          have HK6 := Aside0.mk (HK5.out.below hb)
          clear hk2 hb HR5 HB5 HK5 HOd5 HA1
          go_wp2_with fail
          refine (rdr_coded g b most t2 _ g1 _ _ _ g2 _ _ M s3 w0 w6 HR6.out HB6.out HA1b.out HA2.out HS.out).mono ?_
          rintro e wz ⟨rfl, hRz, hBz, hKz⟩
          have HRz := Aside0.mk hRz
          have HBz := Aside0.mk hBz
          have HKz := Aside0.mk (HK6.out.trans hKz)
          clear hRz hBz hKz
          go_wp2_with fail
          go_meet
          case rel => exact ⟨HRz, HBz, HKz⟩
        rw [if_neg k1] at h
        have d1 : (kind == 1) = false := beq_eq_false_iff_ne.2 k1
        by_cases k2 : kind = 2
        · have d2 : (kind == 2) = true := beq_iff_eq.2 k2
          rw [if_pos k2] at h
          have HS := Aside0.mk h
          clear h HBl
          go_wp2_with fail
          refine (rdr_dynamic g b most N M t2 s3 w0 w3 HR3.out HB3.out HS.out).mono ?_
          rintro e wz ⟨rfl, hRz, hBz, hKz⟩
          have HRz := Aside0.mk hRz
          have HBz := Aside0.mk hBz
          have HKz := Aside0.mk (HK3.out.trans hKz)
          clear hRz hBz hKz
          go_wp2_with fail
          go_meet
          case rel => exact ⟨HRz, HBz, HKz⟩
        rw [if_neg k2] at h
        have d2 : (kind == 2) = false := beq_eq_false_iff_ne.2 k2
        injection h with h
        have HS := Aside0.mk h
        clear h HBl
        go_wp2_with fail
        refine (rdr_want' g b most t2 false 3 s3 w0 w3 HS.out HR3.out HB3.out).mono ?_
        rintro e wz ⟨rfl, hRz, hBz, hKz, _⟩
        have HRz := Aside0.mk hRz
        have HBz := Aside0.mk hBz
        have HKz := Aside0.mk (HK3.out.trans hKz)
        clear hRz hBz hKz
        go_wp2_with fail
        go_meet
        case rel => exact ⟨HRz, HBz, HKz⟩
      case rest =>
        clear HR3 HB3 HK3 HBl
        obtain ⟨HRc, HBc, HKc⟩ := hcut
        obtain ⟨A0, c0, A3, c3, hg, hge, hb, hc, ho⟩ := HRc.out.cells
        have HG := Aside0.mk hg
        have HO := Aside0.mk ho
        have HCb := Aside0.mk hb
        have hcz4 : wc.cell? ⟨g, 4, none⟩ = some (.int .i64 s3.bl) := (blk_cell HG.out 4).trans rfl
        have hfz4 := blk_frozen HG.out 4
        clear hg hb ho
        go_wp2_with fail
        go_roundg n
        case measure => omega
        case rel => exact ⟨v1, { s3 with bl := wrap64 (s3.bl + 1) }, rfl, HL, ⟨⟨A0, c0, _, blk_put HG.out 4 _ rfl, hge, HCb.out, hc, Rdr.put HG.out HO.out 4 _⟩⟩, ⟨HBc.out.setCell (p := ⟨g, 4, none⟩) hge _⟩, ⟨HKc.out.trans (KeepT.put HG.out 4 _)⟩⟩

-- PART
end Go.Proofs.Ytcjijhjdkgjgeaa.P
