-- Written by a program of this session out of the translation. Lean checks it.
import Derived.Test.YtcjijhjdkgjgeaaPx0
import Derived.Test.YtcjijhjdkgjgeaaPx1
import Derived.Test.YtcjijhjdkgjgeaaPx2
import Derived.Test.YtcjijhjdkgjgeaaPx16
namespace Go.Proofs.Ytcjijhjdkgjgeaa.P
open Go.RowKit Go.Proofs.YtcjijhjdkgjgeaaW.PrintWords Go.Proofs.YtcjijhjdkgjgeaaW.PrintLast Go.Proofs.YtcjijhjdkgjgeaaW.PrintMore
attribute [local go_sem] max2_int min2_int max_two min_two max_three min_three max_four min_four   -- for this text's walks alone
set_option linter.unusedVariables false
set_option linter.unusedSimpArgs false

-- PART
/-! ### grow_reader_stream: function 29 (by hand) -/
/-- A block of the fixed lengths. -/
def fixedS (b : List Int) (most : Int) (M : Nat) (s : RSt) : Option RSt :=
  (sym_Fixed.f 1000).bind fun f => if rightB f.1 = true ∧ rightB f.2 = true then codedL (fun n => (openF f.1 n : Int)) (symsTo f.1 f.1.length) (fun n => (openF f.2 n : Int)) (symsTo f.2 f.2.length) b most M s else none
/-- A block of a kind. -/
def blockS (b : List Int) (most : Int) (N M : Nat) (kind : Int) (s : RSt) : Option RSt :=
  if kind = 0 then storedS b most s else if kind = 1 then fixedS b most M s else if kind = 2 then dynS b most N M s else some (wantS s false 3)
/-- Blocks up to the last one. -/
def streamL (b : List Int) (most : Int) (N M : Nat) : Nat → Int → RSt → Option RSt
  | 0, _, _ => none
  | n + 1, last, s => if last = 0 ∧ s.er = 0 then (takeS b s 1).bind fun r1 => (takeS b r1.2 2).bind fun r2 =>
      if r2.2.er ≠ 0 then some r2.2 else (blockS b most N M r2.1 r2.2).bind fun s3 => streamL b most N M n r1.1 { s3 with bl := wrap64 (s3.bl + 1) }
    else some s
def streamS (b : List Int) (most : Int) (N M K : Nat) (s : RSt) : Option RSt :=
  (streamL b most N M K 0 s).bind fun s1 => if s1.er ≠ 0 then some s1 else (padS b s1).bind fun s2 => some (wantS s2 (s2.pos == wrap64 (8 * b.length)) 3)
set_option maxHeartbeats 8000000 in
set_option maxRecDepth 100000 in
theorem rdr_stream (g : Nat) (b : List Int) (most : Int) (N M K : Nat) (s sr : RSt) (w0 w : World) (hR : Rdr w0 w g b most s) (hB : Below w0.heap.size w0 w) (h : streamS b most N M K s = some sr) :
    Calls Try.prog 29 #[.pointer (some ⟨g, 0, none⟩)] w fun r w' => r = .returned (.tuple #[]) ∧ Rdr w0 w' g b most sr ∧ Below w0.heap.size w0 w' ∧ KeepT w w' := by
  unfold streamS at h
  obtain ⟨s1, hl, h⟩ := Option.bind_eq_some_iff.1 h
  have HL := Aside0.mk hl
  have HE := Aside0.mk h
  have HR := Aside0.mk hR
  have HB := Aside0.mk hB
  clear h hl hR hB
  go_enter Try.func29, Try.ntmps29
  go_wp2_with fail
  go_loopg [2] K (fun kq v2 w' => ∃ (la : Int) (si : RSt), v2 = .int .i64 la ∧ Aside0 (streamL b most N M kq la si = some s1) ∧ Aside0 (Rdr w0 w' g b most si) ∧ Aside0 (Below w0.heap.size w0 w') ∧ Aside0 (KeepT w w'))
  case atStart => exact ⟨0, s, rfl, HL, HR, HB, ⟨KeepT.refl _⟩⟩
  case round =>
    clear HL HR HB
    obtain ⟨la, si, rfl, HL, HR, HB, HK⟩ := hrel
    have h := HL.out
    match gk, h with
    | 0, h => unfold streamL at h; cases h
    | n + 1, h =>
      unfold streamL at h
      obtain ⟨A0, c0, A3, c3, hg, hge, hb, hc, ho⟩ := HR.out.cells
      have hcz5 : wr.cell? ⟨g, 5, none⟩ = some (.int .i64 si.er) := (blk_cell hg 5).trans rfl
      clear hg hb ho hc
      by_cases hgo : la = 0 ∧ si.er = 0
      rotate_left
      · rw [if_neg hgo] at h
        injection h with h
        subst h
        have HX := Aside0.mk hgo
        have h := HE.out
        -- the loop's end: what fills the last byte
        by_cases he : si.er = 0
        rotate_left
        · have d1 : (si.er == 0) = false := beq_eq_false_iff_ne.2 he
          rw [if_pos he] at h
          injection h with h
          subst h
          by_cases hla : la = 0
          · have d0 : (la == 0) = true := beq_iff_eq.2 hla
            go_wp2_with fail
            go_end0
            exact ⟨rfl, HR.out, HB.out, HK.out⟩
          · have d0 : (la == 0) = false := beq_eq_false_iff_ne.2 hla
            go_wp2_with fail
            go_end0
            exact ⟨rfl, HR.out, HB.out, HK.out⟩
        have d1 : (si.er == 0) = true := beq_iff_eq.2 he
        have d0 : (la == 0) = false := beq_eq_false_iff_ne.2 (fun hh => HX.out ⟨hh, he⟩)
        rw [if_neg (by rw [he]; simp)] at h
        obtain ⟨s2, hp, h⟩ := Option.bind_eq_some_iff.1 h
        injection h with h
        have HP := Aside0.mk hp
        have HF := Aside0.mk h
        clear h hp HL hgo he HE
        go_wp2_with fail
        refine (rdr_pad g b most si s2 w0 wr HR.out HB.out HP.out).mono ?_
        rintro e wq ⟨rfl, hRq, hBq, hKq⟩
        have HRq := Aside0.mk hRq
        have HBq := Aside0.mk hBq
        have HKq := Aside0.mk (HK.out.trans hKq)
        clear hRq hBq hKq HR HB HK hcz5
        obtain ⟨A0, c0, A3, c3, hg, hge, hb, hc, ho⟩ := HRq.out.cells
        have hcz1 : wq.cell? ⟨g, 1, none⟩ = some (.int .i64 s2.pos) := (blk_cell hg 1).trans rfl
        have hcz0 : wq.cell? ⟨g, 0, none⟩ = some (.slice A0 b.length c0) := (blk_cell hg 0).trans rfl
        clear hg hb ho hc
        go_upto_region 17 with fail
        refine start_ (n := 13) (S := fun w' => w'.cell? ⟨g, 1, none⟩ = some (.int .i64 s2.pos) ∧ w'.cell? ⟨g, 0, none⟩ = some (.slice A0 b.length c0)) (ds := [12]) #[false, false, false, false, false, false, false, false, false, false, false, false, false] (by kernel_rfl) rfl rfl ⟨hcz1, hcz0⟩ (fun hHeld => ?_)
        refine pure_ (i := 0) (N := some 61) (v := ?_) (a' := ?_) #[true, false, false, false, false, false, false, false, false, false, false, false, false] rfl rfl (by kernel_rfl) (fun _ _ _ h => h) (Or.inl ⟨by rfl, ?_⟩) ?_ ?_
        rotate_left
        · intro w'
          go_simp
          with_reducible rfl
        rotate_left
        · simp only [Act.put, List.setIfInBounds_toArray, List.set_cons_zero, List.set_cons_succ, i64_w, i32_w]
          rfl
        refine pure_ (i := 1) (N := some 62) (v := ?_) (a' := ?_) #[true, true, false, false, false, false, false, false, false, false, false, false, false] rfl rfl (by kernel_rfl) (fun _ _ _ h => h) (Or.inl ⟨by rfl, ?_⟩) ?_ ?_
        rotate_left
        · intro w'
          go_simp
          with_reducible rfl
        rotate_left
        · simp only [Act.put, List.setIfInBounds_toArray, List.set_cons_zero, List.set_cons_succ, i64_w, i32_w]
          rfl
        refine pure_ (i := 2) (N := some 63) (v := ?_) (a' := ?_) #[true, true, true, false, false, false, false, false, false, false, false, false, false] rfl rfl (by kernel_rfl) (fun _ _ _ h => h) (Or.inl ⟨by rfl, ?_⟩) ?_ ?_
        rotate_left
        · intro w'
          go_simp
          with_reducible rfl
        rotate_left
        · simp only [Act.put, List.setIfInBounds_toArray, List.set_cons_zero, List.set_cons_succ, i64_w, i32_w]
          rfl
        refine pure_ (i := 3) (N := some 64) (v := ?_) (a' := ?_) #[true, true, true, true, false, false, false, false, false, false, false, false, false] rfl rfl (by kernel_rfl) (fun _ _ _ h => h) (Or.inl ⟨by rfl, ?_⟩) ?_ ?_
        rotate_left
        · intro w'
          go_simp
          with_reducible rfl
        rotate_left
        · simp only [Act.put, List.setIfInBounds_toArray, List.set_cons_zero, List.set_cons_succ, i64_w, i32_w]
          rfl
        refine pure_ (i := 5) (N := some 66) (v := ?_) (a' := ?_) #[true, true, true, true, false, true, false, false, false, false, false, false, false] rfl rfl (by kernel_rfl) (fun _ _ _ h => h) (Or.inl ⟨by rfl, ?_⟩) ?_ ?_
        rotate_left
        · intro w'
          go_simp
          with_reducible rfl
        rotate_left
        · simp only [Act.put, List.setIfInBounds_toArray, List.set_cons_zero, List.set_cons_succ, i64_w, i32_w]
          rfl
        refine pure_ (i := 6) (N := some 67) (v := ?_) (a' := ?_) #[true, true, true, true, false, true, true, false, false, false, false, false, false] rfl rfl (by kernel_rfl) (fun _ _ _ h => h) (Or.inl ⟨by rfl, ?_⟩) ?_ ?_
        rotate_left
        · intro w'
          go_simp
          with_reducible rfl
        rotate_left
        · simp only [Act.put, List.setIfInBounds_toArray, List.set_cons_zero, List.set_cons_succ, i64_w, i32_w]
          rfl
        refine pure_ (i := 7) (N := some 68) (v := ?_) (a' := ?_) #[true, true, true, true, false, true, true, true, false, false, false, false, false] rfl rfl (by kernel_rfl) (fun _ _ _ h => h) (Or.inl ⟨by rfl, ?_⟩) ?_ ?_
        rotate_left
        · intro w'
          go_simp
          with_reducible rfl
        rotate_left
        · simp only [Act.put, List.setIfInBounds_toArray, List.set_cons_zero, List.set_cons_succ, i64_w, i32_w]
          rfl
        refine take_ (i := 4) (N := some 65) (v := ?_) (a' := ?_) #[true, true, true, true, true, true, true, true, false, false, false, false, false] rfl rfl (by kernel_rfl) (fun _ _ _ h => h) (Or.inl ⟨by rfl, ?_⟩) hHeld ?_ ?_
        rotate_left
        · rintro w' ⟨s0, s1⟩
          go_simp
          with_reducible rfl
        rotate_left
        · simp only [Act.put, List.setIfInBounds_toArray, List.set_cons_zero, List.set_cons_succ, i64_w, i32_w]
          rfl
        refine take_ (i := 8) (N := some 69) (v := ?_) (a' := ?_) #[true, true, true, true, true, true, true, true, true, false, false, false, false] rfl rfl (by kernel_rfl) (fun _ _ _ h => h) (Or.inl ⟨by rfl, ?_⟩) hHeld ?_ ?_
        rotate_left
        · rintro w' ⟨s0, s1⟩
          go_simp
          with_reducible rfl
        rotate_left
        · simp only [Act.put, List.setIfInBounds_toArray, List.set_cons_zero, List.set_cons_succ, i64_w, i32_w]
          rfl
        refine pure_ (i := 9) (N := some 70) (v := ?_) (a' := ?_) #[true, true, true, true, true, true, true, true, true, true, false, false, false] rfl rfl (by kernel_rfl) (fun _ _ _ h => h) (Or.inl ⟨by rfl, ?_⟩) ?_ ?_
        rotate_left
        · intro w'
          go_simp
          with_reducible rfl
        rotate_left
        · simp only [Act.put, List.setIfInBounds_toArray, List.set_cons_zero, List.set_cons_succ, i64_w, i32_w]
          rfl
        refine pure_ (i := 10) (N := some 71) (v := ?_) (a' := ?_) #[true, true, true, true, true, true, true, true, true, true, true, false, false] rfl rfl (by kernel_rfl) (fun _ _ _ h => h) (Or.inl ⟨by rfl, ?_⟩) ?_ ?_
        rotate_left
        · intro w'
          go_simp
          with_reducible rfl
        rotate_left
        · simp only [Act.put, List.setIfInBounds_toArray, List.set_cons_zero, List.set_cons_succ, i64_w, i32_w]
          rfl
        refine pure_ (i := 11) (N := some 72) (v := ?_) (a' := ?_) #[true, true, true, true, true, true, true, true, true, true, true, true, false] rfl rfl (by kernel_rfl) (fun _ _ _ h => h) (Or.inl ⟨by rfl, ?_⟩) ?_ ?_
        rotate_left
        · intro w'
          go_simp
          with_reducible rfl
        rotate_left
        · simp only [Act.put, List.setIfInBounds_toArray, List.set_cons_zero, List.set_cons_succ, i64_w, i32_w]
          rfl
        refine last_ (i := 12) (N := some 73) #[true, true, true, true, true, true, true, true, true, true, true, true, true] rfl rfl (by kernel_rfl) (by decide) (fun K hK => ?_)
        refine goes_ Try.func48 (by kernel_rfl) rfl #[.pointer (some ⟨g, 0, none⟩), .bool (s2.pos == wrap64 (8 * b.length)), .int .i64 3] (by rfl) rfl rfl (by simp only [List.map_toArray, List.map_cons, List.map_nil]; rfl) ?_
        with_reducible refine (rdr_want g b most s2 (s2.pos == wrap64 (8 * b.length)) 3 w0 wq.drew (HRq.out.below (Below.refl _ _).drew) HBq.out.drew).mono ?_
        rintro e w10 ⟨rfl, hR10, hB10, hK10⟩
        refine ⟨_, rfl, ?_⟩
        have HR10 := Aside0.mk hR10
        have HB10 := Aside0.mk hB10
        have HK10 := Aside0.mk ((HKq.out.trans (KeepT.of_below (Below.refl _ wq).drew)).trans hK10)
        clear hR10 hB10 hK10
        refine hK.out _ _ ?_
        clear hK K
        refine norm_ (a' := ?_) ?_ ?_
        rotate_left
        · show Act.put _ (some 73) _ = _
          simp only [Act.put, List.setIfInBounds_toArray, List.set_cons_zero, List.set_cons_succ, i64_w, i32_w]
          rfl
        refine done_ (by kernel_rfl) ?_
        rw [HF.out] at HR10
        go_wp2_with fail
        go_end0
        exact ⟨rfl, HR10.out, HB10.out, HK10.out⟩
      rw [if_pos hgo] at h
      have d0 : (la == 0) = true := beq_iff_eq.2 hgo.1
      have d1 : (si.er == 0) = true := beq_iff_eq.2 hgo.2
      obtain ⟨⟨v1, t1⟩, ht1, h⟩ := Option.bind_eq_some_iff.1 h
      obtain ⟨⟨kind, t2⟩, ht2, h⟩ := Option.bind_eq_some_iff.1 h
      have HT1 := Aside0.mk ht1
      have HT2 := Aside0.mk ht2
      have HH := Aside0.mk h
      clear h ht1 ht2 HL hgo
      go_wp2_with fail
      refine (rdr_take g b most si 1 v1 t1 w0 wr HR.out HB.out HT1.out).mono ?_
      rintro e w2 ⟨rfl, hR2, hB2, hK2⟩
      have HR2 := Aside0.mk hR2
      have HB2 := Aside0.mk hB2
      have HK2 := Aside0.mk (HK.out.trans hK2)
      clear hR2 hB2 hK2 HR HB HK hcz5 d0 d1
      go_wp2_with fail
      refine (rdr_take g b most t1 2 kind t2 w0 w2 HR2.out HB2.out HT2.out).mono ?_
      rintro e w3 ⟨rfl, hR3, hB3, hK3⟩
      have HR3 := Aside0.mk hR3
      have HB3 := Aside0.mk hB3
      have HK3 := Aside0.mk (HK2.out.trans hK3)
      clear hR3 hB3 hK3 HR2 HB2 HK2
      obtain ⟨A0, c0, A3, c3, hg, hge, hb, hc, ho⟩ := HR3.out.cells
      have hcz5 : w3.cell? ⟨g, 5, none⟩ = some (.int .i64 t2.er) := (blk_cell hg 5).trans rfl
      clear hg hb ho hc
      have h := HH.out
      by_cases he : t2.er = 0
      rotate_left
      · have d1 : (t2.er != 0) = true := bne_iff_ne.2 he
        rw [if_pos he] at h
        injection h with h
        subst h
        have h := HE.out
        rw [if_pos he] at h
        injection h with h
        subst h
        go_wp2_with fail
        ((try simp only [Exit.inBlock, Exit.then]); refine bodyPost_ret (results_none rfl _ _ _) rfl ?_)
        exact ⟨rfl, HR3.out, HB3.out, HK3.out⟩
      have d1 : (t2.er != 0) = false := by rw [he]; rfl
      rw [if_neg (by rw [he]; simp)] at h
      obtain ⟨s3, hbl, h⟩ := Option.bind_eq_some_iff.1 h
      have HBl := Aside0.mk hbl
      have HL := Aside0.mk h
      clear h hbl HH he
      go_upto_block 2 with fail
      clear hcz5 d1
      go_cut [3, 4, 5, 24, 25, 26, 27, 28, 29, 30, 31, 32, 33, 34, 35, 36, 37, 38, 39, 40, 41, 42, 43, 44, 45, 46] (fun v3 v4 v5 v24 v25 v26 v27 v28 v29 v30 v31 v32 v33 v34 v35 v36 v37 v38 v39 v40 v41 v42 v43 v44 v45 v46 wc => Aside0 (Rdr w0 wc g b most s3) ∧ Aside0 (Below w0.heap.size w0 wc) ∧ Aside0 (KeepT w wc))
      case first =>
        clear HL HE
        have h := HBl.out
        unfold blockS at h
        by_cases k0 : kind = 0
        · have d0 : (kind == 0) = true := beq_iff_eq.2 k0
          rw [if_pos k0] at h
          have HS := Aside0.mk h
          clear h HBl
          go_wp2_with fail
          refine (rdr_stored g b most t2 s3 w0 w3 HR3.out HB3.out HS.out).mono ?_
          rintro e wz ⟨rfl, hRz, hBz, hKz⟩
          have HRz := Aside0.mk hRz
          have HBz := Aside0.mk hBz
          have HKz := Aside0.mk (HK3.out.trans hKz)
          clear hRz hBz hKz
          go_wp2_with fail
          go_meet
          case rel => exact ⟨HRz, HBz, HKz⟩
        rw [if_neg k0] at h
        have d0 : (kind == 0) = false := beq_eq_false_iff_ne.2 k0
        by_cases k1 : kind = 1
        · have d1 : (kind == 1) = true := beq_iff_eq.2 k1
          rw [if_pos k1] at h
          unfold fixedS at h
          obtain ⟨⟨fl, fd⟩, hf, h⟩ := Option.bind_eq_some_iff.1 h
          by_cases hrr : rightB fl = true ∧ rightB fd = true
          rotate_left
          · rw [if_neg hrr] at h; cases h
          rw [if_pos hrr] at h
          obtain ⟨x1, x2⟩ := (rightB_iff fl).1 hrr.1
          obtain ⟨x3, x4⟩ := (rightB_iff fd).1 hrr.2
          have HX2 := Aside0.mk x2
          have HX4 := Aside0.mk x4
          have HF := Aside0.mk hf
          have HS := Aside0.mk h
          clear h hf hrr HBl x2 x4
          go_wp2_with fail
          refine (sym_Fixed.calls 1000 fl fd w3 HF.out).mono ?_
          rintro e w4 ⟨vl, vd, rfl, hol, hod, hb⟩
          obtain ⟨Al, cl, el⟩ := Kd.R_slice hol
          obtain ⟨Ad, cd, ed⟩ := Kd.R_slice hod
          subst el ed
          have HOl := Aside0.mk hol
          have HOd := Aside0.mk hod
          have HR4 := Aside0.mk (HR3.out.below hb)
          have HB4 := Aside0.mk (show Below w0.heap.size w0 w4 from below_then HB3.out HB3.out.size hb)
          have HK4 := Aside0.mk (HK3.out.below hb)
          clear hol hod hb HR3 HB3 HK3
          go_wp2_with fail
          refine (open_book Al cl fl w4 (Kd.R_reads' HOl.out).2.2 (Kd.R_reads' HOl.out).2.1 HX2.out (by omega)).mono ?_
          rintro e w5 ⟨g1, rfl, hk1, hb⟩
          have HA1 := Aside0.mk hk1
          have HR5 := Aside0.mk (HR4.out.below hb)
          have HB5 := Aside0.mk (show Below w0.heap.size w0 w5 from below_then HB4.out HB4.out.size hb)
          have HOd5 := Aside0.mk (Kd.R_below HOd.out hb)
          have HK5 := Aside0.mk (HK4.out.below hb)
          clear hk1 hb HR4 HB4 HK4 HOd HOl
          go_wp2_with fail
          refine (open_book Ad cd fd w5 (Kd.R_reads' HOd5.out).2.2 (Kd.R_reads' HOd5.out).2.1 HX4.out (by omega)).mono ?_
          rintro e w6 ⟨g2, rfl, hk2, hb⟩
          have HA2 := Aside0.mk hk2
          have HA1b := Aside0.mk (HA1.out.below hb)
          have HR6 := Aside0.mk (HR5.out.below hb)
          have HB6 := Aside0.mk (show Below w0.heap.size w0 w6 from below_then HB5.out HB5.out.size hb)
          have HK6 := Aside0.mk (HK5.out.below hb)
          clear hk2 hb HR5 HB5 HK5 HOd5 HA1
          go_wp2_with fail
          refine (rdr_coded g b most t2 _ g1 _ _ _ g2 _ _ M s3 w0 w6 HR6.out HB6.out HA1b.out HA2.out HS.out).mono ?_
          rintro e wz ⟨rfl, hRz, hBz, hKz⟩
          have HRz := Aside0.mk hRz
          have HBz := Aside0.mk hBz
          have HKz := Aside0.mk (HK6.out.trans hKz)
          clear hRz hBz hKz
          go_wp2_with fail
          go_meet
          case rel => exact ⟨HRz, HBz, HKz⟩
        rw [if_neg k1] at h
        have d1 : (kind == 1) = false := beq_eq_false_iff_ne.2 k1
        by_cases k2 : kind = 2
        · have d2 : (kind == 2) = true := beq_iff_eq.2 k2
          rw [if_pos k2] at h
          have HS := Aside0.mk h
          clear h HBl
          go_wp2_with fail
          refine (rdr_dynamic g b most N M t2 s3 w0 w3 HR3.out HB3.out HS.out).mono ?_
          rintro e wz ⟨rfl, hRz, hBz, hKz⟩
          have HRz := Aside0.mk hRz
          have HBz := Aside0.mk hBz
          have HKz := Aside0.mk (HK3.out.trans hKz)
          clear hRz hBz hKz
          go_wp2_with fail
          go_meet
          case rel => exact ⟨HRz, HBz, HKz⟩
        rw [if_neg k2] at h
        have d2 : (kind == 2) = false := beq_eq_false_iff_ne.2 k2
        injection h with h
        have HS := Aside0.mk h
        clear h HBl
        go_wp2_with fail
        refine (rdr_want' g b most t2 false 3 s3 w0 w3 HS.out HR3.out HB3.out).mono ?_
        rintro e wz ⟨rfl, hRz, hBz, hKz, _⟩
        have HRz := Aside0.mk hRz
        have HBz := Aside0.mk hBz
        have HKz := Aside0.mk (HK3.out.trans hKz)
        clear hRz hBz hKz
        go_wp2_with fail
        go_meet
        case rel => exact ⟨HRz, HBz, HKz⟩
      case rest =>
        clear HR3 HB3 HK3 HBl
        obtain ⟨HRc, HBc, HKc⟩ := hcut
        obtain ⟨A0, c0, A3, c3, hg, hge, hb, hc, ho⟩ := HRc.out.cells
        have HG := Aside0.mk hg
        have HO := Aside0.mk ho
        have HCb := Aside0.mk hb
        have hcz4 : wc.cell? ⟨g, 4, none⟩ = some (.int .i64 s3.bl) := (blk_cell HG.out 4).trans rfl
        have hfz4 := blk_frozen HG.out 4
        clear hg hb ho
        go_wp2_with fail
        go_roundg n
        case measure => omega
        case rel => exact ⟨v1, { s3 with bl := wrap64 (s3.bl + 1) }, rfl, HL, ⟨⟨A0, c0, _, blk_put HG.out 4 _ rfl, hge, HCb.out, hc, Rdr.put HG.out HO.out 4 _⟩⟩, ⟨HBc.out.setCell (p := ⟨g, 4, none⟩) hge _⟩, ⟨HKc.out.trans (KeepT.put HG.out 4 _)⟩⟩

-- PART
end Go.Proofs.Ytcjijhjdkgjgeaa.P
namespace Go.Proofs.Ytcjijhjdkgjgeaa.P
open Go.RowKit Go.Proofs.YtcjijhjdkgjgeaaW.PrintWords Go.Proofs.YtcjijhjdkgjgeaaW.PrintLast Go.Proofs.YtcjijhjdkgjgeaaW.PrintMore
attribute [local go_sem] max2_int min2_int max_two min_two max_three min_three max_four min_four   -- for this text's walks alone
set_option linter.unusedVariables false
set_option linter.unusedSimpArgs false

-- PART
/-! ### grow_run: function 20 (by hand) -/
def startS : RSt := ⟨0, [], 0, 0⟩
/-- What a reader comes to. -/
def runS (b : List Int) (most : Int) : Option RSt :=
  if most < 0 ∨ most > 4096 then some { startS with er := 1 } else if b.length > 5000 then some { startS with er := 2 } else streamS b most 400 50000 50000 startS
set_option maxHeartbeats 8000000 in
set_option maxRecDepth 100000 in
theorem grow_run (A0 : Option Addr) (c0 : Nat) (b : List Int) (most : Int) (sr : RSt) (w : World) (hr0 : Kd.C (Kd.int .u8) w A0 b.length b) (hc0 : b.length ≤ c0) (h : runS b most = some sr) :
    Calls Try.prog 20 #[.slice A0 b.length c0, .int .i64 most] w fun r w' => ∃ g, r = .returned (.pointer (some ⟨g, 0, none⟩)) ∧ Rdr w w' g b most sr ∧ Below w.heap.size w w' := by
  have H := Aside0.mk h
  have HN := Aside0.mk (show ∀ e : Int, Rdr w (w.alloc (.cells #[.slice A0 b.length c0, .int .i64 0, .int .i64 most, .slice none 0 0, .int .i64 0, .int .i64 e] 49)) w.heap.size b most { startS with er := e } from fun e => ⟨A0, c0, _, blk_new w _, Nat.le_refl _, hr0, hc0, Kd.R_nil _ _ _ _ _⟩)
  have HB := Aside0.mk (show ∀ e : Int, Below w.heap.size w (w.alloc (.cells #[.slice A0 b.length c0, .int .i64 0, .int .i64 most, .slice none 0 0, .int .i64 0, .int .i64 e] 49)) from fun _ => (Below.refl _ _).alloc (Nat.le_refl _) _)
  clear hr0 h
  go_enter Try.func20, Try.ntmps20
  by_cases h1 : most < 0
  · have d1 : decide (most < 0) = true := decide_eq_true h1
    go_wp2_with fail
    go_ret
    have h := H.out
    unfold runS at h
    rw [if_pos (show most < 0 ∨ most > 4096 by omega)] at h
    injection h with h
    subst h
    exact ⟨_, rfl, HN.out 1, HB.out 1⟩
  have d1 : decide (most < 0) = false := decide_eq_false h1
  by_cases h2 : most > 4096
  · have d2 : decide (4096 < most) = true := decide_eq_true h2
    go_wp2_with fail
    go_ret
    have h := H.out
    unfold runS at h
    rw [if_pos (show most < 0 ∨ most > 4096 by omega)] at h
    injection h with h
    subst h
    exact ⟨_, rfl, HN.out 1, HB.out 1⟩
  have d2 : decide (4096 < most) = false := decide_eq_false h2
  by_cases h3 : b.length > 5000
  · have d3 : decide ((5000 : Int) < (b.length : Int)) = true := decide_eq_true (by omega)
    have d4 : decide (5000 < b.length) = true := decide_eq_true h3
    go_wp2_with fail
    go_ret
    have h := H.out
    unfold runS at h
    rw [if_neg (show ¬ (most < 0 ∨ most > 4096) by omega), if_pos (show b.length > 5000 by omega)] at h
    injection h with h
    subst h
    exact ⟨_, rfl, HN.out 2, HB.out 2⟩
  have d3 : decide ((5000 : Int) < (b.length : Int)) = false := decide_eq_false (by omega)
  have d4 : decide (5000 < b.length) = false := decide_eq_false h3
  go_wp2_with fail
  have h := H.out
  unfold runS at h
  rw [if_neg (show ¬ (most < 0 ∨ most > 4096) by omega), if_neg (show ¬ b.length > 5000 by omega)] at h
  refine (rdr_stream w.heap.size b most 400 50000 50000 startS sr w _ (HN.out 0) (HB.out 0) h).mono ?_
  rintro e w1 ⟨rfl, hR1, hB1, _⟩
  have HR1 := Aside0.mk hR1
  have HB1 := Aside0.mk hB1
  clear hR1 hB1
  go_wp2_with fail
  go_ret
  exact ⟨_, rfl, HR1.out, HB1.out⟩

-- PART
end Go.Proofs.Ytcjijhjdkgjgeaa.P
namespace Go.Proofs.Ytcjijhjdkgjgeaa.P
open Go.RowKit Go.Proofs.YtcjijhjdkgjgeaaW.PrintWords Go.Proofs.YtcjijhjdkgjgeaaW.PrintLast Go.Proofs.YtcjijhjdkgjgeaaW.PrintMore
attribute [local go_sem] max2_int min2_int max_two min_two max_three min_three max_four min_four   -- for this text's walks alone
set_option linter.unusedVariables false
set_option linter.unusedSimpArgs false

-- PART
/-! ### grow_Grow: function 10 (by hand) -/
def grow_Grow.f (l0 : List Int) (a1 : Int) : Option (List Int × Int) := (runS l0 a1).bind fun s => some (if s.er ≠ 0 then ([], s.er) else (s.out, 0))
set_option maxHeartbeats 8000000 in
set_option maxRecDepth 100000 in
theorem grow_Grow.calls (A0 : Option Addr) (c0 : Nat) (l0 : List Int) (a1 : Int) (r1 : List Int) (r2 : Int) (w : World) (hr0 : Kd.C (Kd.int .u8) w A0 l0.length l0) (hc0 : l0.length ≤ c0) (h : grow_Grow.f l0 a1 = some (r1, r2)) :
    Calls Try.prog 10 #[.slice A0 l0.length c0, .int .i64 a1] w fun e w' => ∃ v0_ : Value, e = .returned (.tuple #[v0_, .int .i64 r2]) ∧ Kd.R (Kd.int .u8) 5 w' w.heap.size (fun _ => True) v0_ r1 ∧ Below w.heap.size w w' := by
  unfold grow_Grow.f at h
  obtain ⟨s, hs, h⟩ := Option.bind_eq_some_iff.1 h
  injection h with h
  have HC := Aside0.mk (grow_run A0 c0 l0 a1 s w hr0 hc0 hs)
  have H := Aside0.mk h
  clear h hs hr0
  go_enter Try.func10, Try.ntmps10
  go_wp2_with fail
  refine HC.out.mono ?_
  rintro e w1 ⟨g, rfl, hR, hB⟩
  obtain ⟨Ab, cb, A3, c3, hg, hge, hb, hc, ho⟩ := hR.cells
  have HO := Aside0.mk ho
  have HB := Aside0.mk hB
  have hcz5 : w1.cell? ⟨g, 5, none⟩ = some (.int .i64 s.er) := (blk_cell hg 5).trans rfl
  have hcz3 : w1.cell? ⟨g, 3, none⟩ = some (.slice A3 s.out.length c3) := (blk_cell hg 3).trans rfl
  clear hg hb ho hB hR
  have h := H.out
  by_cases h0 : s.er = 0
  · have d0 : (s.er != 0) = false := by rw [h0]; rfl
    rw [if_neg (by rw [h0]; simp)] at h
    injection h with h1 h2
    subst h1 h2
    go_wp2_with fail
    go_ret2
    exact ⟨_, rfl, HO.out, HB.out⟩
  · have d0 : (s.er != 0) = true := bne_iff_ne.2 h0
    rw [if_pos h0] at h
    injection h with h1 h2
    subst h1 h2
    go_upto_region 3 with fail
    refine start_ (n := 6) (S := fun w' => w'.cell? ⟨g, 5, none⟩ = some (.int .i64 s.er)) (ds := []) #[false, false, false, false, false, false] (by kernel_rfl) rfl rfl (hcz5) (fun hHeld => ?_)
    refine pure_ (i := 0) (N := some 15) (v := ?_) (a' := ?_) #[true, false, false, false, false, false] rfl rfl (by kernel_rfl) (fun _ _ _ h => h) (Or.inl ⟨by rfl, ?_⟩) ?_ ?_
    rotate_left
    · intro w'
      go_simp
      with_reducible rfl
    rotate_left
    · simp only [Act.put, List.setIfInBounds_toArray, List.set_cons_zero, List.set_cons_succ, i64_w, i32_w]
      rfl
    refine pure_ (i := 1) (N := some 16) (v := ?_) (a' := ?_) #[true, true, false, false, false, false] rfl rfl (by kernel_rfl) (fun _ _ _ h => h) (Or.inl ⟨by rfl, ?_⟩) ?_ ?_
    rotate_left
    · intro w'
      go_simp
      with_reducible rfl
    rotate_left
    · simp only [Act.put, List.setIfInBounds_toArray, List.set_cons_zero, List.set_cons_succ, i64_w, i32_w]
      rfl
    refine pure_ (i := 2) (N := some 17) (v := ?_) (a' := ?_) #[true, true, true, false, false, false] rfl rfl (by kernel_rfl) (fun _ _ _ h => h) (Or.inl ⟨by rfl, ?_⟩) ?_ ?_
    rotate_left
    · intro w'
      go_simp
      with_reducible rfl
    rotate_left
    · simp only [Act.put, List.setIfInBounds_toArray, List.set_cons_zero, List.set_cons_succ, i64_w, i32_w]
      rfl
    refine pure_ (i := 4) (N := some 4) (v := ?_) (a' := ?_) #[true, true, true, false, true, false] rfl rfl (by kernel_rfl) (fun _ _ _ h => h) (Or.inl ⟨by rfl, ?_⟩) ?_ ?_
    rotate_left
    · intro w'
      go_simp
      with_reducible rfl
    rotate_left
    · simp only [Act.put, List.setIfInBounds_toArray, List.set_cons_zero, List.set_cons_succ, i64_w, i32_w]
      rfl
    refine take_ (i := 3) (N := some 18) (v := ?_) (a' := ?_) #[true, true, true, true, true, false] rfl rfl (by kernel_rfl) (fun _ _ _ h => h) (Or.inl ⟨by rfl, ?_⟩) hHeld ?_ ?_
    rotate_left
    · intro w' s0
      go_simp
      with_reducible rfl
    rotate_left
    · simp only [Act.put, List.setIfInBounds_toArray, List.set_cons_zero, List.set_cons_succ, i64_w, i32_w]
      rfl
    refine pure_ (i := 5) (N := some 5) (v := ?_) (a' := ?_) #[true, true, true, true, true, true] rfl rfl (by kernel_rfl) (fun _ _ _ h => h) (Or.inl ⟨by rfl, ?_⟩) ?_ ?_
    rotate_left
    · intro w'
      go_simp
      with_reducible rfl
    rotate_left
    · simp only [Act.put, List.setIfInBounds_toArray, List.set_cons_zero, List.set_cons_succ, i64_w, i32_w]
      rfl
    refine done_ (by kernel_rfl) ?_
    go_wp2_with fail
    go_ret2
    exact ⟨_, rfl, Kd.R_nil _ _ _ _ _, by first | exact HB.out | exact HB.out.drew⟩

-- PART
end Go.Proofs.Ytcjijhjdkgjgeaa.P
namespace Go.Proofs.Ytcjijhjdkgjgeaa.P
open Go.RowKit Go.Proofs.YtcjijhjdkgjgeaaW.PrintWords Go.Proofs.YtcjijhjdkgjgeaaW.PrintLast Go.Proofs.YtcjijhjdkgjgeaaW.PrintMore
attribute [local go_sem] max2_int min2_int max_two min_two max_three min_three max_four min_four   -- for this text's walks alone
set_option linter.unusedVariables false
set_option linter.unusedSimpArgs false

/-! ### wherrykeep_Bytes: function 11 -/
def wherrykeep_Bytes.l0 : Nat → List Int → List Int → Int → Option (Bool)
  | 0, _, _, _ => none
  | k + 1, x0, x1, x5 => if x5 < (x0.length : Int) then (if 0 ≤ x5 then (if x5 < (x1.length : Int) then (if (rd x0 x5) = (rd x1 x5) then (wherrykeep_Bytes.l0 k x0 x1 (wrap64 (x5 + 1))) else (some false)) else (none)) else (none)) else (some true)
def wherrykeep_Bytes.f (k : Nat) (l0 : List Int) (l1 : List Int) : Option (Bool) := if (l0.length : Int) = (l1.length : Int) then (wherrykeep_Bytes.l0 k l0 l1 0) else (some false)
theorem wherrykeep_Bytes.mono_l : ∀ k, (∀ y0 y1 y2, LeO (wherrykeep_Bytes.l0 k y0 y1 y2) (wherrykeep_Bytes.l0 (k + 1) y0 y1 y2))
  | 0 => fun _ _ _ r h => by simp [wherrykeep_Bytes.l0] at h
  | k + 1 => by
    have ih0 := wherrykeep_Bytes.mono_l k
    · intro y0 y1 y2
      unfold wherrykeep_Bytes.l0
      repeat' first
      | (with_reducible exact ih0 _ _ _)
      | (with_reducible exact LeO.refl _)
      | (with_reducible exact LeO.none _)
      | (with_reducible refine LeO.ite ?_ ?_)
      | (with_reducible refine LeO.bind ?_ (fun _ => ?_))
      | exact ih0 _ _ _
      | exact LeO.none _
      | refine LeO.ite ?_ ?_
      | refine LeO.bind ?_ (fun _ => ?_)
theorem wherrykeep_Bytes.mono : ∀ a0 a1 k, LeO (wherrykeep_Bytes.f k a0 a1) (wherrykeep_Bytes.f (k + 1) a0 a1) := by
  intro a0 a1 k
  have ih0 := wherrykeep_Bytes.mono_l k
  unfold wherrykeep_Bytes.f
  repeat' first
      | (with_reducible exact ih0 _ _ _)
      | (with_reducible exact LeO.refl _)
      | (with_reducible exact LeO.none _)
      | (with_reducible refine LeO.ite ?_ ?_)
      | (with_reducible refine LeO.bind ?_ (fun _ => ?_))
      | exact ih0 _ _ _
      | exact LeO.none _
      | refine LeO.ite ?_ ?_
      | refine LeO.bind ?_ (fun _ => ?_)
set_option maxHeartbeats 8000000 in
set_option maxRecDepth 100000 in
theorem wherrykeep_Bytes.calls (k : Nat) (A0 : Option Addr) (c0 : Nat) (l0 : List Int) (A1 : Option Addr) (c1 : Nat) (l1 : List Int) (r : Bool) (w : World) (hr0 : Kd.C (Kd.int .u8) w A0 l0.length l0) (hc0 : l0.length ≤ c0) (hr1 : Kd.C (Kd.int .u8) w A1 l1.length l1) (hc1 : l1.length ≤ c1) (h : wherrykeep_Bytes.f k l0 l1 = some r) :
    Calls Try.prog 11 #[.slice A0 l0.length c0, .slice A1 l1.length c1] w fun e w' => e = .returned (.bool r) ∧ Drawn0 w w' := by
  have HR0 := Aside0.mk hr0
  have HC0 := Aside0.mk hc0
  clear hr0 hc0
  have HR1 := Aside0.mk hr1
  have HC1 := Aside0.mk hc1
  clear hr1 hc1
  have H : (if (l0.length : Int) = (l1.length : Int) then (wherrykeep_Bytes.l0 k l0 l1 0) else (some false)) = some r := h
  clear h
  by_cases c3 : (l0.length : Int) = (l1.length : Int)
  · rw [if_pos c3] at H
    have c3b0 : ((l0.length : Int) == (l1.length : Int)) = true := beq_iff_eq.mpr c3
    have c3b1 : ((l0.length : Int) != (l1.length : Int)) = false := bne_eq_false_iff_eq.mpr c3
    have c3b2 : (l0.length == l1.length) = true := by first | simpa using c3 | (simp at c3 ⊢; omega)
    clear c3
    have H' := Aside0.mk H
    clear H
    go_enter Try.func11, Try.ntmps11
    go_wp2
    repeat (go_quiet (fail); try go_wp2)
    go_loopg [5] k (fun kq v5 w' => ∃ (x5_1 : Int), v5 = .int .i64 x5_1 ∧ Aside0 (wherrykeep_Bytes.l0 kq l0 l1 x5_1 = some r) ∧ Aside0 (kq ≤ k) ∧ Drawn0 w w')
    case atStart => exact ⟨(0), (by first | rfl | (simp; done) | (simp [*]; done)), H', ⟨Nat.le_refl _⟩, by repeat (first | exact Drawn0.refl _ | apply Drawn0.step)⟩
    case round =>
      clear H'
      try clear c1
      try clear p2
      try clear c3
      try clear c3b0
      try clear c3b1
      try clear c3b2
      obtain ⟨x5_1, rfl, HA, HK1, ⟨m1, rfl⟩⟩ := hrel
      cases gk with
      | zero => exact absurd HA.out (by simp [wherrykeep_Bytes.l0])
      | succ k1 =>
        have H := HA.out
        clear HA
        simp only [wherrykeep_Bytes.l0] at H
        by_cases c4 : x5_1 < (l0.length : Int)
        · rw [if_pos c4] at H
          have c4b0 : decide (x5_1 < (l0.length : Int)) = true := decide_eq_true c4
          clear c4
          by_cases c5 : 0 ≤ x5_1
          · rw [if_pos c5] at H
            have c5b0 : decide (0 ≤ x5_1) = true := decide_eq_true c5
            clear c5
            by_cases c6 : x5_1 < (l1.length : Int)
            · rw [if_pos c6] at H
              have c6b0 : decide (x5_1 < (l1.length : Int)) = true := decide_eq_true c6
              clear c6
              by_cases c7 : (rd l0 x5_1) = (rd l1 x5_1)
              · rw [if_pos c7] at H
                have c7b0 : ((rd l0 x5_1) == (rd l1 x5_1)) = true := beq_iff_eq.mpr c7
                have c7b1 : ((rd l0 x5_1) != (rd l1 x5_1)) = false := bne_eq_false_iff_eq.mpr c7
                clear c7
                have H' := Aside0.mk H
                clear H
                have p132 : 0 ≤ (x5_1 : Int) := of_decide_eq_true (by first | (with_reducible assumption) | assumption)
                have q132 : x5_1 < (l0.length : Int) := of_decide_eq_true (by first | (with_reducible assumption) | assumption)
                obtain ⟨ad132, e132, hx132_0⟩ := Kd.at_int HR0.out x5_1 p132 q132
                cases e132
                replace p132 := eq_true p132
                replace q132 := eq_true q132
                have p133 : 0 ≤ (x5_1 : Int) := of_decide_eq_true (by first | (with_reducible assumption) | assumption)
                have q133 : x5_1 < (l1.length : Int) := of_decide_eq_true (by first | (with_reducible assumption) | assumption)
                obtain ⟨ad133, e133, hx133_0⟩ := Kd.at_int HR1.out x5_1 p133 q133
                cases e133
                replace p133 := eq_true p133
                replace q133 := eq_true q133
                go_wp2
                repeat (go_quiet (fail); try go_wp2)
                go_roundg k1
                case measure => have := HK1.out; omega
                case rel => exact ⟨(wrap64 (x5_1 + 1)), (by first | rfl | (simp; done) | (simp [*]; done)), H', ⟨by have := HK1.out; omega⟩, by repeat (first | exact Drawn0.refl _ | apply Drawn0.step)⟩
              · rw [if_neg c7] at H
                have c7b0 : ((rd l0 x5_1) == (rd l1 x5_1)) = false := beq_eq_false_iff_ne.mpr c7
                have c7b1 : ((rd l0 x5_1) != (rd l1 x5_1)) = true := bne_iff_ne.mpr c7
                obtain rfl := Option.some.inj H
                have p132 : 0 ≤ (x5_1 : Int) := of_decide_eq_true (by first | (with_reducible assumption) | assumption)
                have q132 : x5_1 < (l0.length : Int) := of_decide_eq_true (by first | (with_reducible assumption) | assumption)
                obtain ⟨ad132, e132, hx132_0⟩ := Kd.at_int HR0.out x5_1 p132 q132
                cases e132
                replace p132 := eq_true p132
                replace q132 := eq_true q132
                have p133 : 0 ≤ (x5_1 : Int) := of_decide_eq_true (by first | (with_reducible assumption) | assumption)
                have q133 : x5_1 < (l1.length : Int) := of_decide_eq_true (by first | (with_reducible assumption) | assumption)
                obtain ⟨ad133, e133, hx133_0⟩ := Kd.at_int HR1.out x5_1 p133 q133
                cases e133
                replace p133 := eq_true p133
                replace q133 := eq_true q133
                go_wp2
                repeat (go_quiet (fail); try go_wp2)
                go_ret
                exact ⟨by first | rfl | (simp; done) | (simp [*]; done), by repeat (first | exact Drawn0.refl _ | apply Drawn0.step)⟩
            · rw [if_neg c6] at H
              exact absurd H (by simp)
          · rw [if_neg c5] at H
            exact absurd H (by simp)
        · rw [if_neg c4] at H
          have c4b0 : decide (x5_1 < (l0.length : Int)) = false := decide_eq_false c4
          clear c4
          obtain rfl := Option.some.inj H
          go_wp2
          repeat (go_quiet (fail); try go_wp2)
          go_ret
          exact ⟨by first | rfl | (simp; done) | (simp [*]; done), by repeat (first | exact Drawn0.refl _ | apply Drawn0.step)⟩
  · rw [if_neg c3] at H
    have c3b0 : ((l0.length : Int) == (l1.length : Int)) = false := beq_eq_false_iff_ne.mpr c3
    have c3b1 : ((l0.length : Int) != (l1.length : Int)) = true := bne_iff_ne.mpr c3
    have c3b2 : (l0.length == l1.length) = false := by first | simpa using c3 | (simp at c3 ⊢; omega)
    obtain rfl := Option.some.inj H
    go_enter Try.func11, Try.ntmps11
    go_wp2
    repeat (go_quiet (fail); try go_wp2)
    go_ret
    exact ⟨by first | rfl | (simp; done) | (simp [*]; done), by repeat (first | exact Drawn0.refl _ | apply Drawn0.step)⟩

end Go.Proofs.Ytcjijhjdkgjgeaa.P
namespace Go.Proofs.Ytcjijhjdkgjgeaa.P
open Go.RowKit Go.Proofs.YtcjijhjdkgjgeaaW.PrintWords Go.Proofs.YtcjijhjdkgjgeaaW.PrintLast Go.Proofs.YtcjijhjdkgjgeaaW.PrintMore
attribute [local go_sem] max2_int min2_int max_two min_two max_three min_three max_four min_four   -- for this text's walks alone
set_option linter.unusedVariables false
set_option linter.unusedSimpArgs false

-- PART
/-! ### grow_Blocks: function 13 (by hand) -/
def grow_Blocks.f (l0 : List Int) : Option (Int × Int) := (runS l0 4096).bind fun s => some (if s.er ≠ 0 then (0, s.er) else (s.bl, 0))
set_option maxHeartbeats 8000000 in
set_option maxRecDepth 100000 in
theorem grow_Blocks.calls (A0 : Option Addr) (c0 : Nat) (l0 : List Int) (r1 : Int) (r2 : Int) (w : World) (hr0 : Kd.C (Kd.int .u8) w A0 l0.length l0) (hc0 : l0.length ≤ c0) (h : grow_Blocks.f l0 = some (r1, r2)) :
    Calls Try.prog 13 #[.slice A0 l0.length c0] w fun e w' => e = .returned (.tuple #[.int .i64 r1, .int .i64 r2]) ∧ Below w.heap.size w w' := by
  unfold grow_Blocks.f at h
  obtain ⟨s, hs, h⟩ := Option.bind_eq_some_iff.1 h
  injection h with h
  have HC := Aside0.mk (grow_run A0 c0 l0 4096 s w hr0 hc0 hs)
  have H := Aside0.mk h
  clear h hs hr0
  go_enter Try.func13, Try.ntmps13
  go_wp2_with fail
  refine HC.out.mono ?_
  rintro e w1 ⟨g, rfl, hR, hB⟩
  obtain ⟨Ab, cb, A3, c3, hg, hge, hb, hc, ho⟩ := hR.cells
  have HB := Aside0.mk hB
  have hcz5 : w1.cell? ⟨g, 5, none⟩ = some (.int .i64 s.er) := (blk_cell hg 5).trans rfl
  have hcz4 : w1.cell? ⟨g, 4, none⟩ = some (.int .i64 s.bl) := (blk_cell hg 4).trans rfl
  clear hg hb ho hB hR
  have h := H.out
  by_cases h0 : s.er = 0
  · have d0 : (s.er != 0) = false := by rw [h0]; rfl
    rw [if_neg (by rw [h0]; simp)] at h
    injection h with h1 h2
    subst h1 h2
    go_wp2_with fail
    go_ret2
    exact ⟨rfl, HB.out⟩
  · have d0 : (s.er != 0) = true := bne_iff_ne.2 h0
    rw [if_pos h0] at h
    injection h with h1 h2
    subst h1 h2
    go_upto_region 3 with fail
    refine start_ (n := 6) (S := fun w' => w'.cell? ⟨g, 5, none⟩ = some (.int .i64 s.er)) (ds := []) #[false, false, false, false, false, false] (by kernel_rfl) rfl rfl (hcz5) (fun hHeld => ?_)
    refine pure_ (i := 0) (N := some 12) (v := ?_) (a' := ?_) #[true, false, false, false, false, false] rfl rfl (by kernel_rfl) (fun _ _ _ h => h) (Or.inl ⟨by rfl, ?_⟩) ?_ ?_
    rotate_left
    · intro w'
      go_simp
      with_reducible rfl
    rotate_left
    · simp only [Act.put, List.setIfInBounds_toArray, List.set_cons_zero, List.set_cons_succ, i64_w, i32_w]
      rfl
    refine pure_ (i := 1) (N := some 13) (v := ?_) (a' := ?_) #[true, true, false, false, false, false] rfl rfl (by kernel_rfl) (fun _ _ _ h => h) (Or.inl ⟨by rfl, ?_⟩) ?_ ?_
    rotate_left
    · intro w'
      go_simp
      with_reducible rfl
    rotate_left
    · simp only [Act.put, List.setIfInBounds_toArray, List.set_cons_zero, List.set_cons_succ, i64_w, i32_w]
      rfl
    refine pure_ (i := 2) (N := some 14) (v := ?_) (a' := ?_) #[true, true, true, false, false, false] rfl rfl (by kernel_rfl) (fun _ _ _ h => h) (Or.inl ⟨by rfl, ?_⟩) ?_ ?_
    rotate_left
    · intro w'
      go_simp
      with_reducible rfl
    rotate_left
    · simp only [Act.put, List.setIfInBounds_toArray, List.set_cons_zero, List.set_cons_succ, i64_w, i32_w]
      rfl
    refine pure_ (i := 4) (N := some 2) (v := ?_) (a' := ?_) #[true, true, true, false, true, false] rfl rfl (by kernel_rfl) (fun _ _ _ h => h) (Or.inl ⟨by rfl, ?_⟩) ?_ ?_
    rotate_left
    · intro w'
      go_simp
      with_reducible rfl
    rotate_left
    · simp only [Act.put, List.setIfInBounds_toArray, List.set_cons_zero, List.set_cons_succ, i64_w, i32_w]
      rfl
    refine take_ (i := 3) (N := some 15) (v := ?_) (a' := ?_) #[true, true, true, true, true, false] rfl rfl (by kernel_rfl) (fun _ _ _ h => h) (Or.inl ⟨by rfl, ?_⟩) hHeld ?_ ?_
    rotate_left
    · intro w' s0
      go_simp
      with_reducible rfl
    rotate_left
    · simp only [Act.put, List.setIfInBounds_toArray, List.set_cons_zero, List.set_cons_succ, i64_w, i32_w]
      rfl
    refine pure_ (i := 5) (N := some 3) (v := ?_) (a' := ?_) #[true, true, true, true, true, true] rfl rfl (by kernel_rfl) (fun _ _ _ h => h) (Or.inl ⟨by rfl, ?_⟩) ?_ ?_
    rotate_left
    · intro w'
      go_simp
      with_reducible rfl
    rotate_left
    · simp only [Act.put, List.setIfInBounds_toArray, List.set_cons_zero, List.set_cons_succ, i64_w, i32_w]
      rfl
    refine done_ (by kernel_rfl) ?_
    go_wp2_with fail
    go_ret2
    exact ⟨rfl, by first | exact HB.out | exact HB.out.drew⟩

-- PART
end Go.Proofs.Ytcjijhjdkgjgeaa.P
namespace Go.Proofs.Ytcjijhjdkgjgeaa.P
open Go.RowKit Go.Proofs.YtcjijhjdkgjgeaaW.PrintWords Go.Proofs.YtcjijhjdkgjgeaaW.PrintLast Go.Proofs.YtcjijhjdkgjgeaaW.PrintMore
attribute [local go_sem] max2_int min2_int max_two min_two max_three min_three max_four min_four   -- for this text's walks alone
set_option linter.unusedVariables false
set_option linter.unusedSimpArgs false

-- PART
/-! ### wherrylaw07_wakes: function 12 (by hand) -/
def wherrylaw07_wakes.f : Option Bool := some true
theorem litk_row (K : IntKind) (xs : List Int) {W : World} {g : Nat} {ty : TypeId} {z : Nat × Nat} {cs : Array Value} (hb : W.heap[g]? = some (.cells cs ty z)) (hc : cs = (xs.map (fun x => Value.int K x)).toArray) (hm : xs.length ≤ 1000) : Kd.C (Kd.int K) W (some ⟨g, 0, none⟩) xs.length xs := by
  refine ⟨rfl, by have : maxLen = maxLen := rfl; exact Nat.le_trans hm (by decide), fun _ => ⟨_, rfl, fun j p hp => ⟨[.int K p], rfl, rfl, fun i u hu => ?_⟩⟩⟩
  have hi : i = 0 := by
    rcases i with _ | i
    · rfl
    · simp at hu
  subst hi
  obtain rfl : Value.int K p = u := by simpa using hu
  have e : ((⟨g, 0, none⟩ : Addr).add (j * (Kd.int K).sz + 0)) = ⟨g, j, none⟩ := by
    simp [Addr.add, Kd.int, Kd.scalar]; omega
  show W.cell? ((⟨g, 0, none⟩ : Addr).add (j * (Kd.int K).sz + 0)) = _
  rw [e]
  simp only [World.cell?, hb]
  subst hc
  simp [hp]
theorem wk_g1 : grow_Grow.f [3, 0] 0 = some ([], 0) := by decide +kernel
theorem wk_g2 : grow_Grow.f [1, 1, 0, 254, 255, 7] 9 = some ([7], 0) := by decide +kernel
theorem wk_n : grow_Blocks.f [3, 0] = some (1, 0) := by decide +kernel
theorem wk_g3 : grow_Grow.f [7] 9 = some ([], 3) := by decide +kernel
theorem wk_b : wherrykeep_Bytes.f 10 [7] [7] = some true := by decide +kernel
set_option maxHeartbeats 4000000 in
set_option maxRecDepth 100000 in
theorem wherrylaw07_wakes.calls  (r : Bool) (w : World) (h : wherrylaw07_wakes.f  = some r) :
    Calls Try.prog 12 #[] w fun e w' => e = .returned (.bool r) ∧ Below w.heap.size w w' := by
  unfold wherrylaw07_wakes.f at h
  injection h with h
  subst h
  go_enter Try.func12, Try.ntmps12
  go_wp2_with fail
  have k1 : Below w.heap.size w (w.alloc (.cells #[.int .u8 3, .int .u8 0] 5)) := (Below.refl _ _).alloc (Nat.le_refl _) _
  refine (grow_Grow.calls (some ⟨w.heap.size, 0, none⟩) 2 [3, 0] 0 [] 0 (w.alloc (.cells #[.int .u8 3, .int .u8 0] 5)) (litk_row .u8 [3, 0] (blk_new w _) rfl (by decide)) (Nat.le_refl _) wk_g1).mono ?_
  rintro e w1 ⟨v1, rfl, ho1, hb1⟩
  obtain ⟨A1, c1, e1⟩ := Kd.R_slice ho1
  subst e1
  have HB1 := Aside0.mk (below_then k1 k1.size hb1)
  clear ho1 hb1 k1
  go_wp2_with fail
  have k2 : Below w1.heap.size w1 (w1.alloc (.cells #[.int .u8 1, .int .u8 1, .int .u8 0, .int .u8 254, .int .u8 255, .int .u8 7] 5)) := (Below.refl _ _).alloc (Nat.le_refl _) _
  refine (grow_Grow.calls (some ⟨w1.heap.size, 0, none⟩) 6 [1, 1, 0, 254, 255, 7] 9 [7] 0 (w1.alloc (.cells #[.int .u8 1, .int .u8 1, .int .u8 0, .int .u8 254, .int .u8 255, .int .u8 7] 5)) (litk_row .u8 [1, 1, 0, 254, 255, 7] (blk_new w1 _) rfl (by decide)) (Nat.le_refl _) wk_g2).mono ?_
  rintro e w2 ⟨v2, rfl, ho2, hb2⟩
  obtain ⟨A2, c2, e2⟩ := Kd.R_slice ho2
  subst e2
  have hb12 : Below w1.heap.size w1 w2 := below_then k2 k2.size hb2
  have HB2 := Aside0.mk (below_then HB1.out HB1.out.size hb12)
  have HO2 := Aside0.mk ho2
  clear ho2 hb2 hb12 k2 HB1
  go_wp2_with fail
  have k3 : Below w2.heap.size w2 (w2.alloc (.cells #[.int .u8 3, .int .u8 0] 5)) := (Below.refl _ _).alloc (Nat.le_refl _) _
  refine (grow_Blocks.calls (some ⟨w2.heap.size, 0, none⟩) 2 [3, 0] 1 0 (w2.alloc (.cells #[.int .u8 3, .int .u8 0] 5)) (litk_row .u8 [3, 0] (blk_new w2 _) rfl (by decide)) (Nat.le_refl _) wk_n).mono ?_
  rintro e w3 ⟨rfl, hb3⟩
  have hb23 : Below w2.heap.size w2 w3 := below_then k3 k3.size hb3
  have HB3 := Aside0.mk (below_then HB2.out HB2.out.size hb23)
  have HO3 := Aside0.mk (Kd.R_below HO2.out hb23)
  clear hb3 hb23 k3 HB2 HO2
  go_wp2_with fail
  have k4 : Below w3.heap.size w3 (w3.alloc (.cells #[.int .u8 7] 5)) := (Below.refl _ _).alloc (Nat.le_refl _) _
  refine (grow_Grow.calls (some ⟨w3.heap.size, 0, none⟩) 1 [7] 9 [] 3 (w3.alloc (.cells #[.int .u8 7] 5)) (litk_row .u8 [7] (blk_new w3 _) rfl (by decide)) (Nat.le_refl _) wk_g3).mono ?_
  rintro e w4 ⟨v4, rfl, ho4, hb4⟩
  obtain ⟨A4, c4, e4⟩ := Kd.R_slice ho4
  subst e4
  have hb34 : Below w3.heap.size w3 w4 := below_then k4 k4.size hb4
  have HB4 := Aside0.mk (below_then HB3.out HB3.out.size hb34)
  have HO4 := Aside0.mk (Kd.R_below HO3.out hb34)
  clear ho4 hb4 hb34 k4 HB3 HO3
  go_wp2_with fail
  have k5 : Below w4.heap.size w4 (w4.alloc (.cells #[.int .u8 7] 5)) := (Below.refl _ _).alloc (Nat.le_refl _) _
  have r5 := Kd.R_reads' (Kd.R_below HO4.out k5)
  refine (wherrykeep_Bytes.calls 10 A2 c2 [7] (some ⟨w4.heap.size, 0, none⟩) 1 [7] true (w4.alloc (.cells #[.int .u8 7] 5)) r5.2.2 r5.2.1 (litk_row .u8 [7] (blk_new w4 _) rfl (by decide)) (Nat.le_refl _) wk_b).mono ?_
  rintro e w5 ⟨rfl, hd5⟩
  have HB5 := Aside0.mk (below_then HB4.out HB4.out.size (below_then k5 k5.size hd5.below))
  clear hd5 k5 r5 HB4 HO4
  go_wp2_with fail
  go_ret
  exact ⟨rfl, HB5.out⟩

-- PART
end Go.Proofs.Ytcjijhjdkgjgeaa.P
namespace Go.Proofs.Ytcjijhjdkgjgeaa.P
open Go.RowKit Go.Proofs.YtcjijhjdkgjgeaaW.PrintWords Go.Proofs.YtcjijhjdkgjgeaaW.PrintLast Go.Proofs.YtcjijhjdkgjgeaaW.PrintMore
attribute [local go_sem] max2_int min2_int max_two min_two max_three min_three max_four min_four   -- for this text's walks alone
set_option linter.unusedVariables false
set_option linter.unusedSimpArgs false

-- PART
/-! ### bits_Pen_Add: function 24 (by hand) -/
/-- One bit behind a row. -/
def pbit (v : Int) (i : Nat) : Int := Go.bits .and .i64 (v / 2 ^ i) 1 % 256
def pgrow (B : List Int) (N : Nat) : List Int := if N % 8 = 0 then B ++ [0] else B
def pset (B : List Int) (N : Nat) (b : Int) : List Int := B.set (B.length - 1) (Go.bits .or .u8 (B.getD (B.length - 1) 0) (b * 2 ^ (N % 8) % 256))
def padd (v : Int) : Nat → Nat → List Int → Nat → List Int
  | 0, _, B, _ => B
  | m + 1, i, B, N => padd v m (i + 1) (pset (pgrow B N) N (pbit v i)) (N + 1)

set_option maxHeartbeats 8000000 in
set_option maxRecDepth 100000 in
theorem pen_add (ty : TypeId) (hty : 5 ≠ ty) (g : Nat) (P_ : Nat → Prop) (v_ : Value) (B : List Int) (v : Int) (N n : Nat) (w0 w : World) (hB : Below w0.heap.size w0 w) (hg : w.heap[g]? = some (.cells #[v_, .int .i64 (N : Int)] ty (0, 0))) (hw : w0.heap.size ≤ g)
    (ho : Kd.R (Kd.int .u8) 5 w w0.heap.size P_ v_ B) (hn : n ≤ 64) (hN : N ≤ 1099511627776) (hb : N % 8 ≠ 0 → B ≠ []) (hl : B.length ≤ 1099511627776) :
    Calls Try.prog 24 #[.pointer (some ⟨g, 0, none⟩), .int .i64 v, .int .i64 n] w fun e w' => ∃ v1, e = .returned (.tuple #[]) ∧ w'.heap[g]? = some (.cells #[v1, .int .i64 ((N + n : Nat) : Int)] ty (0, 0)) ∧
      Kd.R (Kd.int .u8) 5 w' w0.heap.size (fun k => P_ k ∨ w.heap.size ≤ k) v1 (padd v n 0 B N) ∧ Below w0.heap.size w0 w' ∧ Kept w w' (fun k => P_ k ∨ k = g) := by
  have HT := Aside0.mk hty
  have HT2 : Aside0 (∀ q, q ∈ 5 :: (Kd.int .u8).E → q ≠ ty) := ⟨fun q hq => by rw [show q = 5 from by simpa [Kd.int, Kd.scalar] using hq]; exact hty⟩
  clear hty
  have HO := Aside0.mk (show Kd.R (Kd.int .u8) 5 w w0.heap.size (fun k => P_ k ∨ w.heap.size ≤ k) v_ B from Kd.R_mono ho (fun k hk => .inl hk))
  have HK := Aside0.mk (Kept.refl w (fun k => P_ k ∨ k = g))
  have HW0 := Aside0.mk hB.size
  have HB := Aside0.mk hB
  have BK := Aside0.mk hg
  have HL := Aside0.mk hl
  have Hb := Aside0.mk hb
  clear hB ho hg hl hb
  go_enter Try.func24, Try.ntmps24
  go_wp2_with fail
  go_loopg [9] n (fun kq v9 w' => ∃ (i M : Nat) (Bi : List Int) (vi : Value), v9 = .int .i64 i ∧ i ≤ n ∧ M ≤ 2199023255552 ∧ Aside0 (kq + i = n) ∧ Aside0 (M = N + i) ∧ Aside0 (w'.heap[g]? = some (.cells #[vi, .int .i64 (M : Int)] ty (0, 0))) ∧
    Aside0 (Kd.R (Kd.int .u8) 5 w' w0.heap.size (fun k => P_ k ∨ w.heap.size ≤ k) vi Bi) ∧ Aside0 (padd v (n - i) i Bi M = padd v n 0 B N) ∧ Aside0 ((M % 8 ≠ 0 → Bi ≠ []) ∧ Bi.length ≤ B.length + i) ∧ Aside0 (Kept w w' (fun k => P_ k ∨ k = g)) ∧ Aside0 (Below w0.heap.size w0 w'))
  case atStart => exact ⟨0, N, B, v_, rfl, Nat.zero_le _, by omega, ⟨rfl⟩, ⟨rfl⟩, BK, HO, ⟨rfl⟩, ⟨Hb.out, by omega⟩, HK, HB⟩
  case round =>
    clear HO HK HB BK Hb
    obtain ⟨i, M, Bi, vi, rfl, hi, hM, HG, HM, BK, HO, HP, Hb, HK, HB⟩ := hrel
    obtain ⟨Ai, ci, rfl⟩ := Kd.R_slice HO.out
    have hcz0 : wr.cell? ⟨g, 0, none⟩ = some (.slice Ai Bi.length ci) := (blk_cell BK.out 0).trans rfl
    have hcz1 : wr.cell? ⟨g, 1, none⟩ = some (.int .i64 (M : Int)) := (blk_cell BK.out 1).trans rfl
    have hfz0 := blk_frozen BK.out 0
    have hfz1 := blk_frozen BK.out 1
    by_cases hlt : i < n
    · by_cases h8 : M % 8 = 0
      · have hb8 : ((M : Int) % 8 == 0) = true := by rw [beq_iff_eq]; omega
        have H8 := Aside0.mk h8
        clear h8
        go_wp2_with ((with_reducible refine gate_builtin (b := .append) (xs := #[.tmp 26, .tmp 27]) rfl ?_); at_builtin; refine Kd.R_append (Kd.int .u8) (w0 := w0) w0.heap.size rfl (.tmp 26) (.tmp 27) 22 5 (.int .u8 0) 1 rfl Try.underlying22 info5 rfl (by decide) (by omega) (.slice Ai Bi.length ci) Bi 0 [.int .u8 0] (fun k => P_ k ∨ w.heap.size ≤ k) (fun _ => False) rfl rfl rfl (fun _ hk => hk.elim) (fun k hk => .inr (Nat.le_trans HK.out.1 hk)) HO.out HB.out (HB.out.size) (by have := HL.out; have := Hb.out.2; omega) ?_; intro v1 w1 ho hb hg hat; (have n0_ := Aside0.mk (blk_grown BK.out hg (Kd.R_ne HO.out BK.out HT.out))); (have n3_ := Aside0.mk (Kept.of_grown (S := (fun k => P_ k ∨ k = g)) hg HK.out (fun k e => Or.imp_left Or.inl (HO.out.1 k e)))); (have n2_ := Aside0.mk hb); (have n4_ := Aside0.mk ho); clear HO BK HK HB hcz0 hcz1 hfz0 hfz1 hb ho hat hg; (have HO := n4_); (have BK := n0_); (have HK := n3_); (have HB := n2_); clear n0_ n2_ n3_ n4_; (obtain ⟨A1, c1, e1⟩ := Kd.R_slice HO.out); (subst e1); (have hcz0 := (blk_cell BK.out 0).trans rfl);  (have hcz1 : w1.cell? ⟨g, 1, none⟩ = some (.int .i64 (M : Int)) := (blk_cell BK.out 1).trans rfl); (have hfz0 := blk_frozen BK.out 0); (have hfz1 := blk_frozen BK.out 1))
        have n0_ := Aside0.mk (blk_put BK.out 0 (.slice A1 (Bi.length + 1) c1) rfl)
        have n1_ := Aside0.mk (Kd.R_far (p := ⟨g, 0, none⟩) (Kd.R_types HO.out BK.out HT2.out) (fun _ hk => hk.2) (.slice A1 (Bi.length + 1) c1))
        have n2_ := Aside0.mk (Kept.setCell (S := (fun k => P_ k ∨ k = g)) (p := ⟨g, 0, none⟩) HK.out (.inl (.inr rfl)) (.slice A1 (Bi.length + 1) c1))
        have n3_ := Aside0.mk (HB.out.setCell (p := ⟨g, 0, none⟩) hw (.slice A1 (Bi.length + 1) c1))
        clear HO BK HK HB hcz0 hcz1 hfz0 hfz1
        generalize (w1.setCell { block := g, off := 0 } (Value.slice A1 (Bi.length + 1) c1)) = w6 at n0_ n1_ n2_ n3_ ⊢
        rw [List.length_append, List.length_singleton] at n1_
        obtain ⟨Bg, hBg⟩ : ∃ Bg, Bg = pgrow Bi M := ⟨_, rfl⟩
        have n4_ : Aside0 (Bg = pgrow Bi M ∧ Bg.length = Bi.length + 1) := ⟨hBg, by rw [hBg]; unfold pgrow; rw [if_pos H8.out]; simp⟩
        rw [show Bi ++ [0] = Bg from by rw [hBg]; unfold pgrow; rw [if_pos H8.out]] at n1_
        clear hBg
        obtain ⟨L, hL⟩ : ∃ L, L = Bi.length + 1 := ⟨_, rfl⟩
        rw [← hL] at n0_ n1_ n4_
        rw [← hL]
        have HL2 : Aside0 (0 < L ∧ L ≤ B.length + i + 1) := ⟨by omega, by have := Hb.out.2; omega⟩
        clear hL
        clear H8 hb8
        have n5_ : Aside0 (L = Bg.length) := ⟨n4_.out.2.symm⟩
        replace n4_ : Aside0 (Bg = pgrow Bi M) := ⟨n4_.out.1⟩
        replace n1_ := Aside0.mk (Kd.R_mono n1_.out (fun _ hk => hk.1))
        obtain ⟨r, c6, e6, hr0, hr1, hr2⟩ := Kd.R_form n1_.out (by rw [← n5_.out]; exact HL2.out.1)
        injection e6 with e6 e8 e7
        clear e8
        subst e6 e7
        obtain ⟨q0, q1⟩ := Kd.R_celln 0 n1_.out ((L : Int) - 1) (by have := HL2.out.1; omega) (by omega)
        have hcz0 : w6.cell? ⟨g, 0, none⟩ = some (.slice (some ⟨r, 0, none⟩) L c1) := (blk_cell n0_.out 0).trans rfl
        have hcz1 : w6.cell? ⟨g, 1, none⟩ = some (.int .i64 (M : Int)) := (blk_cell n0_.out 1).trans rfl
        have hfz0 := blk_frozen n0_.out 0
        have hfz1 := blk_frozen n0_.out 1
        obtain ⟨x6, hx6⟩ : ∃ x, x = rdOf (0 : Int) Bg ((L : Int) - 1) := ⟨_, rfl⟩
        rw [← hx6] at q0
        rw [show ((L : Int) - 1).toNat = L - 1 from by omega] at q0 q1
        have hL0 := HL2.out.1
        have hL1 : L ≤ 1099511627776 + 65 := by have := HL2.out.2; have := HL.out; omega
        have HX := Aside0.mk hx6
        have HR := Aside0.mk (And.intro hr0 (n1_.out.1 r rfl))
        clear hx6 hr0 hr1 hr2
        go_region
        obtain ⟨y6, hy6⟩ : ∃ y, y = Go.bits .or .u8 x6 (Go.bits .and .i64 (v / 2 ^ i) 1 % 256 * 2 ^ (M % 8) % 256) := ⟨_, rfl⟩
        rw [← hy6]
        have m1_ := Aside0.mk (Kd.R_putn n1_.out ((L : Int) - 1) y6)
        rw [show ((L : Int) - 1).toNat = L - 1 from by omega] at m1_
        have hne : g ≠ r := by have h_ := Kd.R_ne n1_.out n0_.out HT.out; intro e_; exact h_ (by rw [e_]; rfl)
        have m0_ := Aside0.mk (blk_far (p := ⟨r, L - 1, none⟩) n0_.out hne (.int .u8 y6))
        have m2_ := Aside0.mk (Kept.setCell (S := (fun k => P_ k ∨ k = g)) (p := ⟨r, L - 1, none⟩) n2_.out (Or.imp_left Or.inl HR.out.2) (.int .u8 y6))
        have m3_ := Aside0.mk (n3_.out.setCell (p := ⟨r, L - 1, none⟩) HR.out.1 (.int .u8 y6))
        have m5_ : Aside0 (Bg.set (L - 1) y6 = pset (pgrow Bi M) M (pbit v i)) := ⟨by rw [← n4_.out, hy6, HX.out]; unfold pset pbit rdOf; rw [← n5_.out, show ((L : Int) - 1).toNat = L - 1 from by omega]⟩
        have m6_ : Aside0 ((Bg.set (L - 1) y6).length = L) := ⟨by rw [List.length_set]; exact n5_.out.symm⟩
        clear n0_ n1_ n2_ n3_ n4_ n5_ hy6 HX q0 q1 hcz0 hcz1 hfz0 hfz1 HR
        have m7_ : Aside0 ((Kd.int .u8).R 5 (w6.setCell ⟨r, L - 1, none⟩ (.int .u8 y6)).drew w0.heap.size (fun k => P_ k ∨ w.heap.size ≤ k) (.slice (some ⟨r, 0, none⟩) L c1) (Bg.set (L - 1) y6)) := ⟨Kd.R_drew m1_.out⟩
        have m8_ : Aside0 ((w6.setCell ⟨r, L - 1, none⟩ (.int .u8 y6)).drew.heap[g]? = some (.cells #[.slice (some ⟨r, 0, none⟩) L c1, .int .i64 (M : Int)] ty (0, 0))) := ⟨m0_.out⟩
        have m9_ : Aside0 (Kept w (w6.setCell ⟨r, L - 1, none⟩ (.int .u8 y6)).drew (fun k => P_ k ∨ k = g)) := ⟨Kept.drew m2_.out⟩
        have ma_ : Aside0 (Below w0.heap.size w0 (w6.setCell ⟨r, L - 1, none⟩ (.int .u8 y6)).drew) := ⟨m3_.out.drew⟩
        clear m0_ m1_ m2_ m3_
        generalize (w6.setCell ⟨r, L - 1, none⟩ (.int .u8 y6)).drew = w7 at m7_ m8_ m9_ ma_ ⊢
        have hcz0 : w7.cell? ⟨g, 0, none⟩ = some (.slice (some ⟨r, 0, none⟩) L c1) := (blk_cell m8_.out 0).trans rfl
        have hcz1 : w7.cell? ⟨g, 1, none⟩ = some (.int .i64 (M : Int)) := (blk_cell m8_.out 1).trans rfl
        have hfz0 := blk_frozen m8_.out 0
        have hfz1 := blk_frozen m8_.out 1
        go_wp2_with fail
        go_roundg (gk - 1)
        case measure => have := HG.out; omega
        case rel =>
          refine ⟨i + 1, M + 1, Bg.set (L - 1) y6, .slice (some ⟨r, 0, none⟩) L c1, by go_num, by omega, ?_, ⟨by have := HG.out; omega⟩, ⟨by rw [HM.out]; omega⟩, ⟨?_⟩, ⟨?_⟩, ⟨?_⟩, ⟨?_⟩, ⟨?_⟩, ⟨?_⟩⟩
          · have := HM.out; omega
          · exact blk_put m8_.out 1 (.int .i64 ((M : Int) + 1)) rfl
          · exact Kd.R_mono (Kd.R_far (p := ⟨g, 1, none⟩) (Kd.R_types m7_.out m8_.out HT2.out) (fun _ hk => hk.2) _) (fun _ hk => hk.1)
          · rw [← HP.out, m5_.out, show n - i = (n - (i + 1)) + 1 from by omega]; rfl
          · refine ⟨fun _ h => ?_, ?_⟩
            · rw [h] at m6_; have := m6_.out; simp at this; omega
            · rw [m6_.out]; exact Nat.le_trans HL2.out.2 (by omega)
          · exact Kept.setCell m9_.out (.inl (.inr rfl)) _
          · exact ma_.out.setCell hw _
      · have hb8 : ((M : Int) % 8 == 0) = false := by rw [beq_eq_false_iff_ne]; omega
        have H8 := Aside0.mk h8
        clear h8
        go_wp2_with fail
        have n0_ := BK
        have n1_ := HO
        have n2_ := HK
        have n3_ := HB
        clear HO BK HK HB hcz0 hcz1 hfz0 hfz1
        have n4_ : Aside0 (Bi = pgrow Bi M) := ⟨by unfold pgrow; rw [if_neg H8.out]⟩
        obtain ⟨L, hL⟩ : ∃ L, L = Bi.length := ⟨_, rfl⟩
        rw [← hL] at n0_ n1_
        have HL2 : Aside0 (0 < L ∧ L ≤ B.length + i + 1) := ⟨by have := Hb.out.1 H8.out; have := List.length_pos_iff.2 this; omega, by have := Hb.out.2; omega⟩
        have n5_ := Aside0.mk hL
        clear hL H8 hb8
        obtain ⟨r, c6, e6, hr0, hr1, hr2⟩ := Kd.R_form n1_.out (by rw [← n5_.out]; exact HL2.out.1)
        injection e6 with e6 e8 e7
        clear e8
        subst e6 e7
        obtain ⟨q0, q1⟩ := Kd.R_celln 0 n1_.out ((L : Int) - 1) (by have := HL2.out.1; omega) (by omega)
        have hcz0 : wr.cell? ⟨g, 0, none⟩ = some (.slice (some ⟨r, 0, none⟩) L ci) := (blk_cell n0_.out 0).trans rfl
        have hcz1 : wr.cell? ⟨g, 1, none⟩ = some (.int .i64 (M : Int)) := (blk_cell n0_.out 1).trans rfl
        have hfz0 := blk_frozen n0_.out 0
        have hfz1 := blk_frozen n0_.out 1
        obtain ⟨x6, hx6⟩ : ∃ x, x = rdOf (0 : Int) Bi ((L : Int) - 1) := ⟨_, rfl⟩
        rw [← hx6] at q0
        rw [show ((L : Int) - 1).toNat = L - 1 from by omega] at q0 q1
        have hL0 := HL2.out.1
        have hL1 : L ≤ 1099511627776 + 65 := by have := HL2.out.2; have := HL.out; omega
        have HX := Aside0.mk hx6
        have HR := Aside0.mk (And.intro hr0 (n1_.out.1 r rfl))
        clear hx6 hr0 hr1 hr2
        go_region
        obtain ⟨y6, hy6⟩ : ∃ y, y = Go.bits .or .u8 x6 (Go.bits .and .i64 (v / 2 ^ i) 1 % 256 * 2 ^ (M % 8) % 256) := ⟨_, rfl⟩
        rw [← hy6]
        have m1_ := Aside0.mk (Kd.R_putn n1_.out ((L : Int) - 1) y6)
        rw [show ((L : Int) - 1).toNat = L - 1 from by omega] at m1_
        have hne : g ≠ r := by have h_ := Kd.R_ne n1_.out n0_.out HT.out; intro e_; exact h_ (by rw [e_]; rfl)
        have m0_ := Aside0.mk (blk_far (p := ⟨r, L - 1, none⟩) n0_.out hne (.int .u8 y6))
        have m2_ := Aside0.mk (Kept.setCell (S := (fun k => P_ k ∨ k = g)) (p := ⟨r, L - 1, none⟩) n2_.out (Or.imp_left Or.inl HR.out.2) (.int .u8 y6))
        have m3_ := Aside0.mk (n3_.out.setCell (p := ⟨r, L - 1, none⟩) HR.out.1 (.int .u8 y6))
        have m5_ : Aside0 (Bi.set (L - 1) y6 = pset (pgrow Bi M) M (pbit v i)) := ⟨by rw [← n4_.out, hy6, HX.out]; unfold pset pbit rdOf; rw [← n5_.out, show ((L : Int) - 1).toNat = L - 1 from by omega]⟩
        have m6_ : Aside0 ((Bi.set (L - 1) y6).length = L) := ⟨by rw [List.length_set]; exact n5_.out.symm⟩
        clear n0_ n1_ n2_ n3_ n4_ n5_ hy6 HX q0 q1 hcz0 hcz1 hfz0 hfz1 HR
        have m7_ : Aside0 ((Kd.int .u8).R 5 (wr.setCell ⟨r, L - 1, none⟩ (.int .u8 y6)).drew w0.heap.size (fun k => P_ k ∨ w.heap.size ≤ k) (.slice (some ⟨r, 0, none⟩) L ci) (Bi.set (L - 1) y6)) := ⟨Kd.R_drew m1_.out⟩
        have m8_ : Aside0 ((wr.setCell ⟨r, L - 1, none⟩ (.int .u8 y6)).drew.heap[g]? = some (.cells #[.slice (some ⟨r, 0, none⟩) L ci, .int .i64 (M : Int)] ty (0, 0))) := ⟨m0_.out⟩
        have m9_ : Aside0 (Kept w (wr.setCell ⟨r, L - 1, none⟩ (.int .u8 y6)).drew (fun k => P_ k ∨ k = g)) := ⟨Kept.drew m2_.out⟩
        have ma_ : Aside0 (Below w0.heap.size w0 (wr.setCell ⟨r, L - 1, none⟩ (.int .u8 y6)).drew) := ⟨m3_.out.drew⟩
        clear m0_ m1_ m2_ m3_
        generalize (wr.setCell ⟨r, L - 1, none⟩ (.int .u8 y6)).drew = w7 at m7_ m8_ m9_ ma_ ⊢
        have hcz0 : w7.cell? ⟨g, 0, none⟩ = some (.slice (some ⟨r, 0, none⟩) L ci) := (blk_cell m8_.out 0).trans rfl
        have hcz1 : w7.cell? ⟨g, 1, none⟩ = some (.int .i64 (M : Int)) := (blk_cell m8_.out 1).trans rfl
        have hfz0 := blk_frozen m8_.out 0
        have hfz1 := blk_frozen m8_.out 1
        go_wp2_with fail
        go_roundg (gk - 1)
        case measure => have := HG.out; omega
        case rel =>
          refine ⟨i + 1, M + 1, Bi.set (L - 1) y6, .slice (some ⟨r, 0, none⟩) L ci, by go_num, by omega, ?_, ⟨by have := HG.out; omega⟩, ⟨by rw [HM.out]; omega⟩, ⟨?_⟩, ⟨?_⟩, ⟨?_⟩, ⟨?_⟩, ⟨?_⟩, ⟨?_⟩⟩
          · have := HM.out; omega
          · exact blk_put m8_.out 1 (.int .i64 ((M : Int) + 1)) rfl
          · exact Kd.R_mono (Kd.R_far (p := ⟨g, 1, none⟩) (Kd.R_types m7_.out m8_.out HT2.out) (fun _ hk => hk.2) _) (fun _ hk => hk.1)
          · rw [← HP.out, m5_.out, show n - i = (n - (i + 1)) + 1 from by omega]; rfl
          · refine ⟨fun _ h => ?_, ?_⟩
            · rw [h] at m6_; have := m6_.out; simp at this; omega
            · rw [m6_.out]; exact Nat.le_trans HL2.out.2 (by omega)
          · exact Kept.setCell m9_.out (.inl (.inr rfl)) _
          · exact ma_.out.setCell hw _
    · go_wp2_with fail
      go_end0
      obtain rfl : i = n := by omega
      have hP := HP.out
      rw [Nat.sub_self] at hP
      have hM := HM.out
      subst hM
      exact ⟨_, rfl, BK.out, by rw [← hP]; exact HO.out, HB.out, HK.out⟩

-- PART
end Go.Proofs.Ytcjijhjdkgjgeaa.P
namespace Go.Proofs.Ytcjijhjdkgjgeaa.P
open Go.RowKit Go.Proofs.YtcjijhjdkgjgeaaW.PrintWords Go.Proofs.YtcjijhjdkgjgeaaW.PrintLast Go.Proofs.YtcjijhjdkgjgeaaW.PrintMore
attribute [local go_sem] max2_int min2_int max_two min_two max_three min_three max_four min_four   -- for this text's walks alone
set_option linter.unusedVariables false
set_option linter.unusedSimpArgs false

/-! ### bits_may: function 21 -/
def bits_may.f (a0 : Int) (a1 : Int) : Option (Bool) := if a1 ≥ 0 then (if a1 ≤ 24 then (if a0 ≥ 0 then (if 0 ≤ (IntKind.u64.wrap (a1)) then (some ((shr .i64 a0 (IntKind.u64.wrap (a1))) == 0)) else (none)) else (some false)) else (some false)) else (some false)
set_option maxHeartbeats 8000000 in
set_option maxRecDepth 100000 in
theorem bits_may.calls (a0 : Int) (a1 : Int) (r : Bool) (w : World) (h : bits_may.f a0 a1 = some r) :
    Calls Try.prog 21 #[.int .i64 a0, .int .i64 a1] w fun e w' => e = .returned (.bool r) ∧ Drawn0 w w' := by
  have H : (if a1 ≥ 0 then (if a1 ≤ 24 then (if a0 ≥ 0 then (if 0 ≤ (IntKind.u64.wrap (a1)) then (some ((shr .i64 a0 (IntKind.u64.wrap (a1))) == 0)) else (none)) else (some false)) else (some false)) else (some false)) = some r := h
  clear h
  by_cases c3 : a1 ≥ 0
  · rw [if_pos c3] at H
    have c3b0 : decide (0 ≤ a1) = true := decide_eq_true c3
    clear c3
    by_cases c4 : a1 ≤ 24
    · rw [if_pos c4] at H
      have c4b0 : decide (a1 ≤ 24) = true := decide_eq_true c4
      clear c4
      by_cases c5 : a0 ≥ 0
      · rw [if_pos c5] at H
        have c5b0 : decide (0 ≤ a0) = true := decide_eq_true c5
        clear c5
        obtain ⟨ji6, hji6⟩ : ∃ j_ : Int, (IntKind.u64.wrap (a1)) = j_ := ⟨_, rfl⟩
        replace H : (if 0 ≤ (ji6) then (some ((shr .i64 a0 (ji6)) == 0)) else (none)) = some r := by first | (rw [hji6] at H; exact H) | (simp only [hji6] at H ⊢; exact H)
        by_cases c7 : 0 ≤ (ji6)
        · rw [if_pos c7] at H
          have c7b0 := eq_true c7
          have c7b1 : decide (0 ≤ (ji6)) = true := decide_eq_true c7
          clear c7
          obtain ⟨ji8, hji8⟩ : ∃ j_ : Int, (shr .i64 a0 (ji6)) = j_ := ⟨_, rfl⟩
          replace H : (some ((ji8) == 0)) = some r := by first | (rw [hji8] at H; exact H) | (simp only [hji8] at H ⊢; exact H)
          have hji8_ : (a0 / 2 ^ min (ji6).toNat 64) = ji8 := hji8
          have hji8z : (ji6) ≤ 64 → (a0 / 2 ^ (ji6).toNat) = ji8 := shr_small hji8
          obtain rfl := Option.some.inj H
          go_enter Try.func21, Try.ntmps21
          go_wp2
          go_ret
          exact ⟨by first | rfl | (simp; done) | (simp only [← hji6, ← hji8] <;> (first | rfl | simp)) | (simp [*]; done), by repeat (first | exact Drawn0.refl _ | apply Drawn0.step)⟩
        · rw [if_neg c7] at H
          exact absurd H (by simp)
      · rw [if_neg c5] at H
        have c5b0 : decide (0 ≤ a0) = false := decide_eq_false c5
        clear c5
        obtain rfl := Option.some.inj H
        go_enter Try.func21, Try.ntmps21
        go_wp2
        go_ret
        exact ⟨by first | rfl | (simp; done) | (simp [*]; done), by repeat (first | exact Drawn0.refl _ | apply Drawn0.step)⟩
    · rw [if_neg c4] at H
      have c4b0 : decide (a1 ≤ 24) = false := decide_eq_false c4
      clear c4
      obtain rfl := Option.some.inj H
      go_enter Try.func21, Try.ntmps21
      go_wp2
      go_ret
      exact ⟨by first | rfl | (simp; done) | (simp [*]; done), by repeat (first | exact Drawn0.refl _ | apply Drawn0.step)⟩
  · rw [if_neg c3] at H
    have c3b0 : decide (0 ≤ a1) = false := decide_eq_false c3
    clear c3
    obtain rfl := Option.some.inj H
    go_enter Try.func21, Try.ntmps21
    go_wp2
    go_ret
    exact ⟨by first | rfl | (simp; done) | (simp [*]; done), by repeat (first | exact Drawn0.refl _ | apply Drawn0.step)⟩

end Go.Proofs.Ytcjijhjdkgjgeaa.P
namespace Go.Proofs.Ytcjijhjdkgjgeaa.P
open Go.RowKit Go.Proofs.YtcjijhjdkgjgeaaW.PrintWords Go.Proofs.YtcjijhjdkgjgeaaW.PrintLast Go.Proofs.YtcjijhjdkgjgeaaW.PrintMore
attribute [local go_sem] max2_int min2_int max_two min_two max_three min_three max_four min_four   -- for this text's walks alone
set_option linter.unusedVariables false
set_option linter.unusedSimpArgs false

/-! ### bits_Turn: function 14 -/
def bits_Turn.l0 : Nat → Int → Int → Int → Int → Option (Int × Int)
  | 0, _, _, _, _ => none
  | k + 1, x0, x6, x12, x13 => if x13 < x12 then (if 0 ≤ (IntKind.u64.wrap (x13)) then (bits_Turn.l0 k x0 (Go.bits .or .i64 (wrap64 (x6 * 2)) (Go.bits .and .i64 (shr .i64 x0 (IntKind.u64.wrap (x13))) 1)) x12 (wrap64 (x13 + 1))) else (none)) else (some (x6, 0))
def bits_Turn.f (k : Nat) (a0 : Int) (a1 : Int) : Option (Int × Int) := (bits_may.f a0 a1).bind fun t136 => (if t136 = true then (bits_Turn.l0 k a0 0 a1 0) else (some (0, 1)))
theorem bits_Turn.mono_l : ∀ k, (∀ y0 y1 y2 y3, LeO (bits_Turn.l0 k y0 y1 y2 y3) (bits_Turn.l0 (k + 1) y0 y1 y2 y3))
  | 0 => fun _ _ _ _ r h => by simp [bits_Turn.l0] at h
  | k + 1 => by
    have ih0 := bits_Turn.mono_l k
    · intro y0 y1 y2 y3
      unfold bits_Turn.l0
      repeat' first
      | (with_reducible exact ih0 _ _ _ _)
      | (with_reducible exact LeO.refl _)
      | (with_reducible exact LeO.none _)
      | (with_reducible refine LeO.ite ?_ ?_)
      | (with_reducible refine LeO.bind ?_ (fun _ => ?_))
      | exact ih0 _ _ _ _
      | exact LeO.none _
      | refine LeO.ite ?_ ?_
      | refine LeO.bind ?_ (fun _ => ?_)
theorem bits_Turn.mono : ∀ a0 a1 k, LeO (bits_Turn.f k a0 a1) (bits_Turn.f (k + 1) a0 a1) := by
  intro a0 a1 k
  have ih0 := bits_Turn.mono_l k
  unfold bits_Turn.f
  repeat' first
      | (with_reducible exact ih0 _ _ _ _)
      | (with_reducible exact LeO.refl _)
      | (with_reducible exact LeO.none _)
      | (with_reducible refine LeO.ite ?_ ?_)
      | (with_reducible refine LeO.bind ?_ (fun _ => ?_))
      | exact ih0 _ _ _ _
      | exact LeO.none _
      | refine LeO.ite ?_ ?_
      | refine LeO.bind ?_ (fun _ => ?_)
set_option maxHeartbeats 8000000 in
set_option maxRecDepth 100000 in
theorem bits_Turn.calls (k : Nat) (a0 : Int) (a1 : Int) (r1 : Int) (r2 : Int) (w : World) (h : bits_Turn.f k a0 a1 = some (r1, r2)) :
    Calls Try.prog 14 #[.int .i64 a0, .int .i64 a1] w fun e w' => e = .returned (.tuple #[.int .i64 r1, .int .i64 r2]) ∧ Drawn0 w w' := by
  have H : ((bits_may.f a0 a1).bind fun t136 => (if t136 = true then (bits_Turn.l0 k a0 0 a1 0) else (some (0, 1)))) = some (r1, r2) := h
  clear h
  replace H := Option.bind_eq_some_iff.mp H
  obtain ⟨t136, A30, H⟩ := H
  replace H : (if t136 = true then (bits_Turn.l0 k a0 0 a1 0) else (some (0, 1))) = some (r1, r2) := H
  have A3 := Aside0.mk A30
  clear A30
  by_cases c4 : t136 = true
  · subst c4
    have H1 : (bits_Turn.l0 k a0 0 a1 0) = some (r1, r2) := by rw [if_pos rfl] at H; exact H
    clear H
    have H := H1
    clear H1
    have H' := Aside0.mk H
    clear H
    go_enter Try.func14, Try.ntmps14
    go_wp2_with (first | ((with_reducible refine gate_callee (f := 21) rfl ?_); refine goesL_ (some 10) rfl rfl Try.func21 (by kernel_rfl) rfl #[.int .i64 a0, .int .i64 a1] rfl (by (try simp only [List.map_toArray, List.map_cons, List.map_nil]); first | done | rfl | (simp only [List.length_drop, List.length_take]; rfl)) ?_; (with_reducible refine (bits_may.calls a0 a1 true _ A3.out).mono ?_); rintro e w' ⟨rfl, ⟨nd, rfl⟩⟩; refine ⟨_, rfl, ?_⟩))
    go_loopg [6, 13] k (fun kq v6 v13 w' => ∃ (x6_1 : Int) (x13_1 : Int), v6 = .int .i64 x6_1 ∧ v13 = .int .i64 x13_1 ∧ Aside0 (bits_Turn.l0 kq a0 x6_1 a1 x13_1 = some (r1, r2)) ∧ Aside0 (kq ≤ k) ∧ Drawn0 w w')
    case atStart => exact ⟨(0), (0), (by first | rfl | (simp; done) | (simp [*]; done)), (by first | rfl | (simp; done) | (simp [*]; done)), H', ⟨Nat.le_refl _⟩, by repeat (first | exact Drawn0.refl _ | apply Drawn0.step)⟩
    case round =>
      clear H'
      try clear c1
      try clear c2
      try clear p2
      try clear c4
      obtain ⟨x6_1, x13_1, rfl, rfl, HA, HK1, ⟨m1, rfl⟩⟩ := hrel
      cases gk with
      | zero => exact absurd HA.out (by simp [bits_Turn.l0])
      | succ k1 =>
        have H := HA.out
        clear HA
        simp only [bits_Turn.l0] at H
        by_cases c5 : x13_1 < a1
        · rw [if_pos c5] at H
          have c5b0 : decide (x13_1 < a1) = true := decide_eq_true c5
          clear c5
          obtain ⟨ji6, hji6⟩ : ∃ j_ : Int, (IntKind.u64.wrap (x13_1)) = j_ := ⟨_, rfl⟩
          replace H : (if 0 ≤ (ji6) then (bits_Turn.l0 k1 a0 (Go.bits .or .i64 (wrap64 (x6_1 * 2)) (Go.bits .and .i64 (shr .i64 a0 (ji6)) 1)) a1 (wrap64 (x13_1 + 1))) else (none)) = some (r1, r2) := by first | (rw [hji6] at H; exact H) | (simp only [hji6] at H ⊢; exact H)
          by_cases c7 : 0 ≤ (ji6)
          · rw [if_pos c7] at H
            have c7b0 := eq_true c7
            have c7b1 : decide (0 ≤ (ji6)) = true := decide_eq_true c7
            clear c7
            obtain ⟨ji8, hji8⟩ : ∃ j_ : Int, (shr .i64 a0 (ji6)) = j_ := ⟨_, rfl⟩
            replace H : (bits_Turn.l0 k1 a0 (Go.bits .or .i64 (wrap64 (x6_1 * 2)) (Go.bits .and .i64 (ji8) 1)) a1 (wrap64 (x13_1 + 1))) = some (r1, r2) := by first | (rw [hji8] at H; exact H) | (simp only [hji8] at H ⊢; exact H)
            have hji8_ : (a0 / 2 ^ min (ji6).toNat 64) = ji8 := hji8
            have hji8z : (ji6) ≤ 64 → (a0 / 2 ^ (ji6).toNat) = ji8 := shr_small hji8
            have H' := Aside0.mk H
            clear H
            go_wp2
            go_roundg k1
            case measure => have := HK1.out; omega
            case rel => exact ⟨(Go.bits .or .i64 (wrap64 (x6_1 * 2)) (Go.bits .and .i64 (ji8) 1)), (wrap64 (x13_1 + 1)), (by first | rfl | (simp; done) | (simp only [← hji8] <;> (first | rfl | simp)) | (simp [*]; done)), (by first | rfl | (simp; done) | (simp [*]; done)), H', ⟨by have := HK1.out; omega⟩, by repeat (first | exact Drawn0.refl _ | apply Drawn0.step)⟩
          · rw [if_neg c7] at H
            exact absurd H (by simp)
        · rw [if_neg c5] at H
          have c5b0 : decide (x13_1 < a1) = false := decide_eq_false c5
          clear c5
          simp only [Option.some.injEq, Prod.mk.injEq] at H
          obtain ⟨rfl, rfl⟩ := H
          go_wp2
          go_ret2
          exact ⟨by first | rfl | (simp; done) | (simp [*]; done), by repeat (first | exact Drawn0.refl _ | apply Drawn0.step)⟩
  · replace c4 := Bool.eq_false_iff.mpr c4
    subst c4
    have H1 : (some (0, 1)) = some (r1, r2) := by rw [if_neg (show ¬ (false = true) by decide)] at H; exact H
    clear H
    have H := H1
    clear H1
    simp only [Option.some.injEq, Prod.mk.injEq] at H
    obtain ⟨rfl, rfl⟩ := H
    go_enter Try.func14, Try.ntmps14
    go_wp2_with (first | ((with_reducible refine gate_callee (f := 21) rfl ?_); refine goesL_ (some 10) rfl rfl Try.func21 (by kernel_rfl) rfl #[.int .i64 a0, .int .i64 a1] rfl (by (try simp only [List.map_toArray, List.map_cons, List.map_nil]); first | done | rfl | (simp only [List.length_drop, List.length_take]; rfl)) ?_; (with_reducible refine (bits_may.calls a0 a1 false _ A3.out).mono ?_); rintro e w' ⟨rfl, ⟨nd, rfl⟩⟩; refine ⟨_, rfl, ?_⟩))
    go_ret2
    exact ⟨by first | rfl | (simp; done) | (simp [*]; done), by repeat (first | exact Drawn0.refl _ | apply Drawn0.step)⟩

end Go.Proofs.Ytcjijhjdkgjgeaa.P
