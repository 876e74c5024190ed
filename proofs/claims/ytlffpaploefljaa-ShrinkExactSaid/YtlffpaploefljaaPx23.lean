-- Written by a program of this session out of the translation. Lean checks it.
import Derived.Test.YtlffpaploefljaaPx0
import Derived.Test.YtlffpaploefljaaPx5
import Derived.Test.YtlffpaploefljaaPx39
import Derived.Test.YtlffpaploefljaaPx38
import Derived.Test.YtlffpaploefljaaSteps
namespace Go.Proofs.Ytlffpaploefljaa.P
open Go.RowKit Go.Proofs.YtlffpaploefljaaW.PrintWords Go.Proofs.YtlffpaploefljaaW.PrintLast Go.Proofs.YtlffpaploefljaaW.PrintMore
open List (setIfInBounds_toArray set_cons_zero set_cons_succ)
attribute [local go_sem] max2_int min2_int max_two min_two max_three min_three max_four min_four   -- for this text's walks alone
set_option linter.unusedVariables false
set_option linter.unusedSimpArgs false

/-! ### shrink_pen_body: function 62 (by hand) -/
/-- A token behind a pen's bits. -/
def tokS (a lits b dists : List Int) (t : S53) (s : List Int × Nat) : Option (List Int × Nat) :=
 if t.f1 = 0 then codeS a lits (wrap64 t.f0) s else
  (sym_Len.f 400 t.f1).bind fun r => (codeS a lits r.1 s).bind fun s1 => (addS r.2.2.1 r.2.1 s1).bind fun s2 =>
  (sym_Dist.f 400 t.f2).bind fun q => (codeS b dists q.1 s2).bind fun s3 => addS q.2.2.1 q.2.1 s3
def bodyL (a lits b dists : List Int) : List S53 → List Int × Nat → Option (List Int × Nat)
 | [], s => some s
 | t :: l, s => (tokS a lits b dists t s).bind (bodyL a lits b dists l)
/-- Tokens and the end behind a pen's bits. -/
def bodyS (l : List S53) (lits dists : List Int) (s : List Int × Nat) : Option (List Int × Nat) :=
 (canon_Codes.f lits).bind fun a => (canon_Codes.f dists).bind fun b => (bodyL a.1 lits b.1 dists l s).bind fun s1 => codeS a.1 lits 256 s1
/-- A row that is read and that pens leave. -/
def ReadsP (w : World) (A : Option Addr) (l : List Int) : Prop := ∀ W, KeepP w W → Kd.C (Kd.int .i64) W A l.length l
theorem ReadsP.keep {w w1 : World} {A : Option Addr} {l : List Int} (h : ReadsP w A l) (hk : KeepP w w1) : ReadsP w1 A l := fun W hW => h W (hk.trans hW)
theorem ReadsP.now {w : World} {A : Option Addr} {l : List Int} (h : ReadsP w A l) : Kd.C (Kd.int .i64) w A l.length l := h w (KeepP.refl w)
theorem readsP_own {w : World} {base : Nat} {ok : Nat → Prop} {A : Option Addr} {n c : Nat} {l : List Int} (h : Kd.R (Kd.int .i64) 3 w base ok (.slice A n c) l) : ReadsP w A l ∧ n = l.length ∧ l.length ≤ c :=
 ⟨fun W hW => (Kd.R_reads' (introw_keepP h hW)).2.2, (Kd.R_reads' h).1, by have h1 := (Kd.R_reads' h).1; have h2 := (Kd.R_reads' h).2.1; omega⟩
/-- A row of tokens that pens leave. -/
def ReadsT (w : World) (A : Option Addr) (l : List S53) : Prop := ∀ W, KeepP w W → Kd.C k53 W A l.length l
set_option maxHeartbeats 8000000 in
set_option maxRecDepth 100000 in
theorem pen_body (g : Nat) (A1 A2 A3 : Option Addr) (c1 c2 c3 : Nat) (l : List S53) (lits dists : List Int) (s sr : List Int × Nat) (w0 w : World) (hP : PenAt w0 w g s) (hB : Below w0.heap.size w0 w)
  (hr1 : ReadsT w A1 l) (hc1 : l.length ≤ c1) (hl : l.length ≤ 1000000) (hr2 : ReadsP w A2 lits) (hc2 : lits.length ≤ c2) (hr3 : ReadsP w A3 dists) (hc3 : dists.length ≤ c3) (h : bodyS l lits dists s = some sr) :
  Calls Try.prog 62 #[.pointer (some ⟨g, 0, none⟩), .slice A1 l.length c1, .slice A2 lits.length c2, .slice A3 dists.length c3] w fun e w' => e = .returned (.tuple #[]) ∧ PenAt w0 w' g sr ∧ Below w0.heap.size w0 w' ∧ KeepP w w' := by
 unfold bodyS at h
 obtain ⟨⟨a, ea⟩, ha, h⟩ := Option.bind_eq_some_iff.1 h
 obtain ⟨⟨b, eb⟩, hb, h⟩ := Option.bind_eq_some_iff.1 h
 obtain ⟨s2, hs2, h⟩ := Option.bind_eq_some_iff.1 h
 simp only at hs2 h
 have HA := Aside0.mk ha
 have HBc := Aside0.mk hb
 have HL := Aside0.mk hs2
 have HE := Aside0.mk h
 have HP := Aside0.mk hP
 have HB := Aside0.mk hB
 have HR1 := Aside0.mk hr1
 have HR2 := Aside0.mk hr2
 have HR3 := Aside0.mk hr3
 clear ha hb hs2 h hP hB hr1 hr2 hr3
 go_enter Try.func62, Try.ntmps62
 go_wp2_with fail
 refine (canon_Codes.calls A2 c2 lits a ea w HR2.out.now hc2 HA.out).mono ?_
 rintro e w1 ⟨va, rfl, ho1, hb1⟩
 obtain ⟨Aa, ca, ea1⟩ := Kd.R_slice ho1
 subst ea1
 obtain ⟨ra, _, hca⟩ := readsP_own ho1
 have RA := Aside0.mk ra
 have HB1 := Aside0.mk (below_then HB.out HB.out.size hb1)
 have HK1 := Aside0.mk (KeepP.of_below hb1)
 have HP1 := Aside0.mk (HP.out.below hb1)
 clear ho1 hb1 ra HP HB HA
 go_wp2_with fail
 refine (canon_Codes.calls A3 c3 dists b eb w1 (HR3.out.keep HK1.out).now hc3 HBc.out).mono ?_
 rintro e w2 ⟨vb, rfl, ho2, hb2⟩
 obtain ⟨Ab, cb, eb1⟩ := Kd.R_slice ho2
 subst eb1
 obtain ⟨rb, _, hcb⟩ := readsP_own ho2
 have RB := Aside0.mk rb
 have RA2 := Aside0.mk (RA.out.keep (KeepP.of_below hb2))
 have HB2 := Aside0.mk (below_then HB1.out HB1.out.size hb2)
 have HK2 := Aside0.mk (HK1.out.below hb2)
 have HP2 := Aside0.mk (HP1.out.below hb2)
 have HRl := Aside0.mk (HR2.out.keep HK2.out)
 have HRd := Aside0.mk (HR3.out.keep HK2.out)
 have HRt : Aside0 (ReadsT w2 A1 l) := ⟨fun W hW => HR1.out W (HK2.out.trans hW)⟩
 clear ho2 hb2 rb HP1 HB1 HK1 HBc RA HR2 HR3 HR1
 go_wp2_with fail
 go_loopg [30] l.length (fun kq v30 w' => ∃ (i : Nat) (si : List Int × Nat), v30 = .int .i64 i ∧ i ≤ l.length ∧ Aside0 (kq + i = l.length) ∧ Aside0 (bodyL a lits b dists (l.drop i) si = some s2) ∧ Aside0 (PenAt w0 w' g si) ∧ Aside0 (Below w0.heap.size w0 w') ∧ Aside0 (KeepP w2 w'))
 case atStart => exact ⟨0, s, rfl, Nat.zero_le _, ⟨by omega⟩, HL, HP2, HB2, ⟨KeepP.refl _⟩⟩
 case round =>
  clear HL HP2 HB2
  obtain ⟨i, si, rfl, hi, HG, HL, HP, HB, HK⟩ := hrel
  by_cases hlt : i < l.length
  rotate_left
  ·obtain rfl : i = l.length := by omega
   have h := HL.out
   rw [List.drop_length] at h
   simp only [bodyL] at h
   injection h with h
   subst h
   go_wp2_with fail
   refine (pen_code g Aa A2 ca c2 a lits 256 si sr w0 wr HP.out HB.out (RA2.out.keep HK.out).now hca (HRl.out.keep HK.out).now hc2 HE.out).mono ?_
   rintro e w3 ⟨rfl, hP3, hB3, hK3⟩
   go_wp2_with fail
   go_end0
   exact ⟨rfl, hP3, hB3, HK2.out.trans (HK.out.trans hK3)⟩
  have h := HL.out
  obtain ⟨t, ht⟩ : ∃ t, t = rd_T53 l (i : Int) := ⟨_, rfl⟩
  have hd : l.drop i = t :: l.drop (i + 1) := by
   rw [ht]
   unfold rd_T53
   rw [Int.toNat_natCast, List.getD_eq_getElem?_getD, List.getElem?_eq_getElem hlt]
   exact List.drop_eq_getElem_cons hlt
  rw [hd] at h
  simp only [bodyL] at h
  obtain ⟨s3, hs3, h⟩ := Option.bind_eq_some_iff.1 h
  have HT := Aside0.mk hs3
  have HL1 := Aside0.mk h
  clear h hs3 HL hd
  obtain ⟨ad, ead, k0, k1, k2⟩ := at_T53 (HRt.out wr HK.out) (i : Int) (by omega) (by omega)
  rw [← ht, Int.toNat_natCast] at k0
  rw [← ht, Int.toNat_natCast] at k1 k2
  subst ead
  clear ht
  by_cases h0 : t.f1 = 0
  ·have d0 : (t.f1 == 0) = true := beq_iff_eq.2 h0
   have hT := HT.out
   unfold tokS at hT
   rw [if_pos h0] at hT
   have HT1 := Aside0.mk hT
   clear hT HT h0
   go_wp2_with fail
   have hal : Below wr.heap.size wr (wr.alloc (.cells #[.int .u8 t.f0, .int .i64 t.f1, .int .i64 t.f2] 53)) := (Below.refl _ _).alloc (Nat.le_refl _) _
   have hk0 := KeepP.of_below hal
   refine (pen_code g Aa A2 ca c2 a lits (wrap64 t.f0) si s3 w0 _ (HP.out.below hal) (HB.out.alloc HB.out.size _) ((RA2.out.keep HK.out).keep hk0).now hca ((HRl.out.keep HK.out).keep hk0).now hc2 HT1.out).mono ?_
   rintro e w3 ⟨rfl, hP3, hB3, hK3⟩
   have HP3 := Aside0.mk hP3
   have HB3 := Aside0.mk hB3
   have HK3 := Aside0.mk (HK.out.trans (hk0.trans hK3))
   clear hP3 hB3 hK3 hal hk0 HP HB HK
   go_wp2_with fail
   go_roundg (gk - 1)
   case measure => have := HG.out; omega
   case rel => exact ⟨i + 1, s3, by go_num, by omega, ⟨by have := HG.out; omega⟩, HL1, HP3, HB3, HK3⟩
  ·have d0 : (t.f1 == 0) = false := beq_eq_false_iff_ne.2 h0
   have hT := HT.out
   unfold tokS at hT
   rw [if_neg h0] at hT
   obtain ⟨⟨y1, y2, y3, y4⟩, hs, hT⟩ := Option.bind_eq_some_iff.1 hT
   obtain ⟨s4, h4, hT⟩ := Option.bind_eq_some_iff.1 hT
   obtain ⟨s5, h5, hT⟩ := Option.bind_eq_some_iff.1 hT
   obtain ⟨⟨z1, z2, z3, z4⟩, hz, hT⟩ := Option.bind_eq_some_iff.1 hT
   obtain ⟨s6, h6, hT⟩ := Option.bind_eq_some_iff.1 hT
   have HS := Aside0.mk hs
   have H4 := Aside0.mk h4
   have H5 := Aside0.mk h5
   have HZ := Aside0.mk hz
   have H6 := Aside0.mk h6
   have H7 := Aside0.mk hT
   clear hs h4 h5 hz h6 hT HT h0
   have hal : Below wr.heap.size wr (wr.alloc (.cells #[.int .u8 t.f0, .int .i64 t.f1, .int .i64 t.f2] 53)) := (Below.refl _ _).alloc (Nat.le_refl _) _
   have HAL := Aside0.mk hal
   have BT := Aside0.mk (blk_new wr (.cells #[.int .u8 t.f0, .int .i64 t.f1, .int .i64 t.f2] 53))
   clear hal
   go_wp2_with fail
   refine (sym_Len.calls 400 t.f1 y1 y2 y3 y4 _ HS.out).mono ?_
   rintro e w3 ⟨rfl, hb3⟩
   have hk3 := (KeepP.of_below HAL.out).below hb3
   have HP3 := Aside0.mk ((HP.out.below HAL.out).below hb3)
   have HB3 := Aside0.mk (below_then (HB.out.alloc HB.out.size _) (HB.out.alloc HB.out.size _).size hb3)
   have HK3 := Aside0.mk (HK.out.trans hk3)
   have BT3 : Aside0 (w3.heap[wr.heap.size]? = some (.cells #[.int .u8 t.f0, .int .i64 t.f1, .int .i64 t.f2] 53 (0, 0))) := ⟨(KeepP.of_below hb3).2 _ _ _ BT.out (by decide) (by decide)⟩
   clear hb3 hk3 HP HB HK BT HAL HS
   go_wp2_with fail
   refine (pen_code g Aa A2 ca c2 a lits y1 si s4 w0 w3 HP3.out HB3.out (RA2.out.keep HK3.out).now hca (HRl.out.keep HK3.out).now hc2 H4.out).mono ?_
   rintro e w4 ⟨rfl, hP4, hB4, hK4⟩
   have HP4 := Aside0.mk hP4
   have HB4 := Aside0.mk hB4
   have HK4 := Aside0.mk (HK3.out.trans hK4)
   have BT4 := Aside0.mk (hK4.2 _ _ _ BT3.out (by decide) (by decide))
   clear hP4 hB4 hK4 HP3 HB3 HK3 BT3 H4
   go_wp2_with fail
   refine (pen_more g y3 y2 s4 s5 w0 w4 HP4.out HB4.out H5.out).mono ?_
   rintro e w5 ⟨rfl, hP5, hB5, hK5⟩
   have HP5 := Aside0.mk hP5
   have HB5 := Aside0.mk hB5
   have HK5 := Aside0.mk (HK4.out.trans hK5)
   have BT5 := Aside0.mk (hK5.2 _ _ _ BT4.out (by decide) (by decide))
   clear hP5 hB5 hK5 HP4 HB4 HK4 BT4 H5
   have hcz2 : w5.cell? ⟨wr.heap.size, 2, none⟩ = some (.int .i64 t.f2) := (blk_cell BT5.out 2).trans rfl
   go_wp2_with fail
   refine (sym_Dist.calls 400 t.f2 z1 z2 z3 z4 w5 HZ.out).mono ?_
   rintro e w6 ⟨rfl, hb6⟩
   have HP6 := Aside0.mk (HP5.out.below hb6)
   have HB6 := Aside0.mk (below_then HB5.out HB5.out.size hb6)
   have HK6 := Aside0.mk (HK5.out.below hb6)
   clear hb6 HP5 HB5 HK5 BT5 HZ hcz2
   go_wp2_with fail
   refine (pen_code g Ab A3 cb c3 b dists z1 s5 s6 w0 w6 HP6.out HB6.out (RB.out.keep HK6.out).now hcb (HRd.out.keep HK6.out).now hc3 H6.out).mono ?_
   rintro e w7 ⟨rfl, hP7, hB7, hK7⟩
   have HP7 := Aside0.mk hP7
   have HB7 := Aside0.mk hB7
   have HK7 := Aside0.mk (HK6.out.trans hK7)
   clear hP7 hB7 hK7 HP6 HB6 HK6 H6
   go_wp2_with fail
   refine (pen_more g z3 z2 s6 s3 w0 w7 HP7.out HB7.out H7.out).mono ?_
   rintro e w8 ⟨rfl, hP8, hB8, hK8⟩
   have HP8 := Aside0.mk hP8
   have HB8 := Aside0.mk hB8
   have HK8 := Aside0.mk (HK7.out.trans hK8)
   clear hP8 hB8 hK8 HP7 HB7 HK7 H7
   go_wp2_with fail
   go_roundg (gk - 1)
   case measure => have := HG.out; omega
   case rel => exact ⟨i + 1, s3, by go_num, by omega, ⟨by have := HG.out; omega⟩, HL1, HP8, HB8, HK8⟩

/-! ### shrink_next: function 77 (by hand) -/
def shrink_next.f (a0 a1 a2 : Int) : Option (Int × Int × Int × Int) := if 1 ≤ a2 ∧ a2 ≤ 100000 then some (RowSteps.stepOf a0 a1 a2.toNat) else none
set_option maxHeartbeats 8000000 in
set_option maxRecDepth 100000 in
theorem shrink_next.calls (a0 : Int) (a1 : Int) (a2 : Int) (r1 : Int) (r2 : Int) (r3 : Int) (r4 : Int) (w : World) (h : shrink_next.f a0 a1 a2 = some (r1, r2, r3, r4)) :
  Calls Try.prog 77 #[.int .i64 a0, .int .i64 a1, .int .i64 a2] w fun e w' => e = .returned (.agg #[.int .i64 r1, .int .i64 r2, .int .i64 r3, .int .i64 r4]) ∧ Below w.heap.size w w' := by
 unfold shrink_next.f at h
 split at h
 rotate_left
 ·cases h
 rename_i hb
 obtain ⟨r, rfl⟩ := Int.eq_ofNat_of_zero_le (show 0 ≤ a2 by omega)
 rw [Int.toNat_natCast] at h
 injection h with h
 have hr : 1 ≤ r ∧ r ≤ 100000 := by omega
 have hu := Try.underlying76
 clear hb
 rcases (by omega : (a0 = 0 ∧ 11 ≤ r) ∨ (a0 = 0 ∧ 3 ≤ r ∧ r < 11) ∨ (a0 = 0 ∧ r < 3) ∨ (a0 ≠ 0 ∧ a0 ≠ a1) ∨ (a0 ≠ 0 ∧ a0 = a1 ∧ r < 3) ∨ (a0 ≠ 0 ∧ a0 = a1 ∧ 3 ≤ r)) with c | c | c | c | c | c
 case' inl =>
  rw [RowSteps.step_a c.1 c.2] at h
  have d0 : (a0 == 0) = true := beq_iff_eq.2 c.1
  have d1 : decide ((11 : Int) ≤ (r : Int)) = true := decide_eq_true (by omega)
  have hmn : (if (138 : Int) < (r : Int) then (138 : Int) else (r : Int)) = ((min r 138 : Nat) : Int) := by split <;> omega
  obtain ⟨m, hm⟩ : ∃ m, m = min r 138 := ⟨_, rfl⟩
  rw [← hm] at hmn h
  have hm1 : 11 ≤ m ∧ m ≤ 138 := by omega
  clear hm
 case' inr.inl =>
  rw [RowSteps.step_b c.1 c.2.1 c.2.2] at h
  have d0 : (a0 == 0) = true := beq_iff_eq.2 c.1
  have d1 : decide ((11 : Int) ≤ (r : Int)) = false := decide_eq_false (by omega)
  have d2 : decide ((3 : Int) ≤ (r : Int)) = true := decide_eq_true (by omega)
 case' inr.inr.inl =>
  rw [RowSteps.step_d (.inl c)] at h
  have d0 : (a0 == 0) = true := beq_iff_eq.2 c.1
  have d4 : (a0 != 0) = false := by rw [c.1]; rfl
  have d1 : decide ((11 : Int) ≤ (r : Int)) = false := decide_eq_false (by omega)
  have d2 : decide ((3 : Int) ≤ (r : Int)) = false := decide_eq_false (by omega)
 case' inr.inr.inr.inl =>
  rw [RowSteps.step_d (.inr (.inl ⟨c.1, fun e => c.2 e.symm⟩))] at h
  have d0 : (a0 == 0) = false := beq_eq_false_iff_ne.2 c.1
  have d4 : (a0 != 0) = true := bne_iff_ne.2 c.1
  have d5 : (a0 == a1) = false := beq_eq_false_iff_ne.2 c.2
 case' inr.inr.inr.inr.inl =>
  rw [RowSteps.step_d (.inr (.inr ⟨c.1, c.2.2⟩))] at h
  have d0 : (a0 == 0) = false := beq_eq_false_iff_ne.2 c.1
  have d4 : (a0 != 0) = true := bne_iff_ne.2 c.1
  have d5 : (a0 == a1) = true := beq_iff_eq.2 c.2.1
  have d2 : decide ((3 : Int) ≤ (r : Int)) = false := decide_eq_false (by omega)
 case' inr.inr.inr.inr.inr =>
  rw [RowSteps.step_c c.1 c.2.1.symm c.2.2] at h
  have d0 : (a0 == 0) = false := beq_eq_false_iff_ne.2 c.1
  have d4 : (a0 != 0) = true := bne_iff_ne.2 c.1
  have d5 : (a0 == a1) = true := beq_iff_eq.2 c.2.1
  have d2 : decide ((3 : Int) ≤ (r : Int)) = true := decide_eq_true (by omega)
  have hmn : (if (6 : Int) < (r : Int) then (6 : Int) else (r : Int)) = ((min r 6 : Nat) : Int) := by split <;> omega
  obtain ⟨m, hm⟩ : ∃ m, m = min r 6 := ⟨_, rfl⟩
  rw [← hm] at hmn h
  have hm1 : 3 ≤ m ∧ m ≤ 6 := by omega
  clear hm
 all_goals
  injection h with h1 h
  injection h with h2 h
  injection h with h3 h4
  subst h1 h2 h3 h4
  clear c
  go_enter Try.func77, Try.ntmps77
  go_wp2_with fail
  refine bodyPost_ret (results_cell_row rfl _ _ w.heap.size 76 _ (0, 0) _ rfl (blk_new w _) hu rfl (by kernel_rfl)) rfl ?_
  exact ⟨rfl, below_alloc (Below.refl _ _) _⟩

/-! ### shrink_steps: function 44 (by hand) -/
/-- A step as the program tells it. -/
def toS (s : Int × Int × Int × Int) : S76 := ⟨s.1, s.2.1, s.2.2.1, s.2.2.2⟩
def stepsOk (l : List Int) : Prop := l.length ≤ 400 ∧ ∀ x ∈ l, 0 ≤ x ∧ x ≤ 15
instance (l : List Int) : Decidable (stepsOk l) := inferInstanceAs (Decidable (_ ∧ _))
def shrink_steps.f (l0 : List Int) : Option ((List (S76))) := if stepsOk l0 then some ((RowSteps.steps l0.length (-1) l0).map toS) else none
theorem rd_at (l : List Int) (i : Nat) : rd l (i : Int) = l.getD i 0 := by unfold rd; rw [Int.toNat_natCast]
theorem reads_at {W : World} {ad : Addr} {n j : Nat} {x : Int} {xs : List Int} (h : Kd.C (Kd.int .i64) W (some ad) n xs) (hj : j < n) (hx : rd xs (j : Int) = x) : W.cell? (ad.add j) = some (.int .i64 x) := by
 obtain ⟨ad', e, h1⟩ := Kd.at_int h (j : Int) (by omega) (by omega)
 injection e with e
 subst e
 rwa [hx, Int.toNat_natCast] at h1
theorem infoStep : (Try.prog.info? 76).map (fun i => (i.zero, i.size, i.bytes)) = some (some (.agg #[.int .i64 0, .int .i64 0, .int .i64 0, .int .i64 0]), 4, 32) := by kernel_rfl
section
variable {P : Program} {ops : Array Oper} {o : Oper} {rest : List Oper} {a : Act} {Q : Exit → Act → World → Prop}
/-- One step more behind a row of steps. -/
theorem step_append {w0 W : World} {t : TypeId} {v : Value} {S : List S76} {p : S76} {s x : Operand} (hgd : o.guard = none)
  (ho : o.op = .call { callee := .builtin .append, args := #[s, x], argTypes := #[t, t] }) (ht : P.underlying t = some (.slice 76)) (hinfo : (P.info? 76).map (fun i => (i.zero, i.size, i.bytes)) = some (some (.agg #[.int .i64 0, .int .i64 0, .int .i64 0, .int .i64 0]), 4, 32))
  (hs : a.eval s = v) (hx : a.eval x = .slice (some ⟨W.heap.size, 0, none⟩) 1 1) (HO : Kd.R k76 76 W w0.heap.size (fun _ => True) v S) (HB : Below w0.heap.size w0 W) (hl : S.length ≤ 100000)
  (h : ∀ v1 w1, Kd.R k76 76 w1 w0.heap.size (fun _ => True) v1 (S ++ [p]) → Below w0.heap.size w0 w1 → W.grownBy w1 v.ownBlock → wpList P ops Q rest (a.put o.dst v1) w1) :
  wpList P ops Q (o :: rest) a (W.alloc (.cells #[.int .i64 p.f0, .int .i64 p.f1, .int .i64 p.f2, .int .i64 p.f3] 76)) :=
 Kd.R_append k76 (w0 := w0) w0.heap.size hgd s x t 76 (.agg #[.int .i64 0, .int .i64 0, .int .i64 0, .int .i64 0]) 32 ho ht hinfo rfl (by decide) (by decide) v S p _ (fun _ => True) (fun _ => False) hs hx (k76_mkM W _ _ p) (fun _ hk => hk.elim) (fun _ _ => trivial) HO HB HB.size (by omega) (fun v1 w1 h1 h2 h3 _ => h v1 w1 h1 h2 h3)
end
open RowSteps (prev RowS run run_le scan_more scan_stop stepOf) in
set_option maxHeartbeats 8000000 in
set_option maxRecDepth 100000 in
theorem shrink_steps.calls (A0 : Option Addr) (c0 : Nat) (l0 : List Int) (r : List (S76)) (w : World) (hr0 : Kd.C (Kd.int .i64) w A0 l0.length l0) (hc0 : l0.length ≤ c0) (h : shrink_steps.f l0 = some r) :
  Calls Try.prog 44 #[.slice A0 l0.length c0] w fun e w' => ∃ v0_ : Value, e = .returned (v0_) ∧ Kd.R k76 76 w' w.heap.size (fun _ => True) v0_ r ∧ Below w.heap.size w w' := by
 unfold shrink_steps.f at h
 split at h
 rotate_left
 ·cases h
 rename_i hok
 injection h with h
 obtain ⟨hl, hx⟩ := hok
 have HR := Aside0.mk hr0
 have HX := Aside0.mk hx
 have HH := Aside0.mk h
 have hu := Try.underlying76
 clear hr0 hx h
 go_enter Try.func44, Try.ntmps44
 go_wp2_with fail
 go_loopg [3, 4, 5] l0.length (fun kq v3 v4 v5 w' => ∃ (i : Nat) (S : List (Int × Int × Int × Int)), v5 = .int .i64 i ∧ i ≤ l0.length ∧ v4 = .int .i64 (prev l0 i) ∧ Aside0 (l0.length ≤ kq + i) ∧ Aside0 (RowS l0 S i) ∧ Aside0 (Kd.R k76 76 w' w.heap.size (fun _ => True) v3 (S.map toS)) ∧ Aside0 (Below w.heap.size w w'))
 case atStart => exact ⟨0, [], rfl, Nat.zero_le _, rfl, ⟨Nat.le_refl _⟩, ⟨RowS.begin l0⟩, ⟨Kd.R_nil _ _ _ _ _⟩, ⟨Below.refl _ _⟩⟩
 case round =>
  obtain ⟨i, S, rfl, hi, rfl, HG, HI, HO, HB⟩ := hrel
  by_cases hlt : i < l0.length
  rotate_left
  ·obtain rfl : i = l0.length := by omega
   go_wp2_with fail
   go_ret
   rw [← HH.out, ← HI.out.ends]
   exact ⟨_, rfl, HO.out, HB.out⟩
  have hrun := run_le (l0.getD i 0) (l0.drop (i + 1))
  rw [List.length_drop] at hrun
  obtain ⟨R, hR⟩ : ∃ R, R = run (l0.getD i 0) (l0.drop (i + 1)) := ⟨_, rfl⟩
  rw [← hR] at hrun
  have HRR := Aside0.mk hR
  clear hR
  have hld : R ≤ 400 := by omega
  obtain ⟨G, hGK⟩ : ∃ G, G = gk := ⟨_, rfl⟩
  have HGK := Aside0.mk hGK
  rw [← hGK] at HG
  clear hGK
  obtain ⟨ad, ead, _⟩ := Kd.at_int HR.out (i : Int) (by omega) (by omega)
  subst ead
  obtain ⟨v, hv⟩ : ∃ v, v = l0.getD i 0 := ⟨_, rfl⟩
  have HV := Aside0.mk hv
  obtain ⟨pv, hpv⟩ : ∃ p, p = prev l0 i := ⟨_, rfl⟩
  have HPV := Aside0.mk hpv
  rw [← hpv]
  clear hv hpv
  go_wp2_with fail
  go_loopg [6] R (fun kq v6 w' => ∃ (r : Nat), v6 = .int .i64 r ∧ 1 ≤ r ∧ r ≤ R + 1 ∧ Aside0 (kq + r = R + 1) ∧ Aside0 (Kd.R k76 76 w' w.heap.size (fun _ => True) u3 (S.map toS)) ∧ Aside0 (Below w.heap.size w w'))
  case atStart => exact ⟨1, rfl, Nat.le_refl _, by omega, ⟨rfl⟩, HO, HB⟩
  case round =>
   clear HO HB
   obtain ⟨r, rfl, hr1, hr2, HG2, HO, HB⟩ := hrel
   have k0 := reads_at (Kd.C_below HR.out HB.out) hlt ((rd_at l0 i).trans HV.out.symm)
   obtain ⟨q, hq⟩ : ∃ q, q = i + r := ⟨_, rfl⟩
   have ws : IntKind.i64.wrap ((i : Int) + (r : Int)) = (q : Int) := by rw [i64_w]; unfold wrap64; omega
   by_cases hr3 : r ≤ R
   ·obtain ⟨hn, hv⟩ := scan_more hr1 (by rw [← HRR.out]; exact hr3)
    have k1 := reads_at (Kd.C_below HR.out HB.out) hn (rd_at l0 (i + r))
    rw [hv, ← HV.out, ← hq] at k1
    rw [← hq] at hn
    have dq : decide ((q : Int) < (l0.length : Int)) = true := decide_eq_true (by omega)
    clear hv hq
    go_wp2_with fail
    go_quiet (fail)
    clear k1 k0
    go_wp2_with fail
    go_roundg (gk - 1)
    case measure => have := HG2.out; omega
    case rel => exact ⟨r + 1, by go_num, by omega, by omega, ⟨by have := HG2.out; omega⟩, ⟨Kd.R_drewN HO.out _⟩, ⟨pw_below_drewN HB.out _⟩⟩
   ·have er : r = R + 1 := by omega
    have HST : Aside0 (∀ sy mo bt : Int, ∀ m : Nat, stepOf v pv r = (sy, mo, bt, (m : Int)) → RowS l0 (S ++ [(sy, mo, bt, (m : Int))]) (i + m) ∧ 1 ≤ m ∧ i + m ≤ l0.length ∧ prev l0 (i + m) = v) := ⟨fun sy mo bt m hs => by
     rw [HV.out]
     exact RowS.next (r := r) HI.out hlt HX.out (by rw [er, HRR.out]) (by rw [← HV.out, ← HPV.out]; exact hs)⟩
    have HLN : Aside0 (S.length ≤ 400) := ⟨by obtain ⟨_, _, _, h4⟩ := HI.out; omega⟩
    by_cases hn : q < l0.length
    case' pos =>
     have hne := scan_stop (r := r) (by rw [er, HRR.out]) (by omega : i + r < l0.length)
     rw [← hq, ← HV.out] at hne
     have k1 := reads_at (Kd.C_below HR.out HB.out) hn (rd_at l0 q)
     generalize l0.getD q 0 = y at hne k1
     have dy : (y == v) = false := beq_eq_false_iff_ne.2 hne
     have dq : decide ((q : Int) < (l0.length : Int)) = true := decide_eq_true (by omega)
     have ER := Aside0.mk er
     clear hq hne er
     go_wp2_with fail
     go_quiet (fail)
     clear k1 dy
    case' neg =>
     have dq : decide ((q : Int) < (l0.length : Int)) = false := decide_eq_false (by omega)
     have ER := Aside0.mk er
     clear hq er
     go_wp2_with fail
     go_quiet (fail)
    all_goals
     clear dq hn ws
     replace HO := Aside0.mk (Kd.R_drewN HO.out nq)
     replace HB := Aside0.mk (pw_below_drewN HB.out nq)
     clear k0
     generalize wr.drewN nq = w5 at HO HB ⊢
     have k5 := reads_at (Kd.C_below HR.out HB.out) hlt ((rd_at l0 i).trans HV.out.symm)
     have hvb : 0 ≤ v ∧ v ≤ 15 := by rw [HV.out]; exact HX.out _ (by rw [List.getD_eq_getElem?_getD, List.getElem?_eq_getElem hlt]; exact List.getElem_mem hlt)
     obtain ⟨⟨sy, mo, bt, mz⟩, hst⟩ : ∃ t, t = stepOf v pv r := ⟨_, rfl⟩
     obtain ⟨m, hm, _⟩ := (RowSteps.next_fit v pv r hr1 hvb).runs
     rw [← hst] at hm
     have hm : mz = (m : Int) := hm
     subst hm
     have HS := Aside0.mk (HST.out sy mo bt m hst.symm)
     have HF := Aside0.mk (show shrink_next.f v pv r = some (sy, mo, bt, (m : Int)) from by unfold shrink_next.f; rw [if_pos ⟨by omega, by omega⟩, Int.toNat_natCast, ← hst])
     have hm4 : m ≤ 400 ∧ i + m ≤ 400 := by have := HS.out.2.2.1; omega
     clear hst hvb HST
     go_wp2_with fail
     refine (shrink_next.calls v pv r sy mo bt m w5 HF.out).mono ?_
     rintro e w6 ⟨rfl, hb⟩
     have HO6 := Aside0.mk (Kd.R_below HO.out hb)
     have HB6 := Aside0.mk (below_then HB.out HB.out.size hb)
     have k6 := reads_at (Kd.C_below HR.out HB6.out) hlt ((rd_at l0 i).trans HV.out.symm)
     have hal : Below w6.heap.size w6 (w6.alloc (.cells #[.int .i64 sy, .int .i64 mo, .int .i64 bt, .int .i64 m] 76)) := (Below.refl _ _).alloc (Nat.le_refl _) _
     have HO7 := Aside0.mk (Kd.R_below HO6.out hal)
     have HB7 := Aside0.mk (below_then HB6.out HB6.out.size hal)
     have BT := Aside0.mk (blk_new w6 (.cells #[.int .i64 sy, .int .i64 mo, .int .i64 bt, .int .i64 m] 76))
     have HSZ : Aside0 ((w6.alloc (.cells #[.int .i64 sy, .int .i64 mo, .int .i64 bt, .int .i64 m] 76)).heap.size = w6.heap.size + 1) := ⟨by simp⟩
     have HNE : Aside0 (some w6.heap.size ≠ u3.ownBlock) := ⟨fun e => by have := Kd.R_lt HO6.out _ e.symm; omega⟩
     have HSL : Aside0 ((S.map toS).length ≤ 100000) := ⟨by rw [List.length_map]; have := HLN.out; omega⟩
     clear k5 hb hal HO HB HF
     go_wp2_with ((with_reducible refine gate_builtin (b := .append) rfl ?_); at_builtin; refine step_append (p := toS (sy, mo, bt, (m : Int))) rfl rfl Try.underlying73 infoStep rfl (by rw [HSZ.out]; rfl) HO7.out HB7.out HSL.out ?_; intro v8 w8 h1 h2 h3; (have HO8 := Aside0.mk h1); (have HB8 := Aside0.mk h2); (have hb8 := (h3.block _ (blk_lt BT.out) HNE.out).trans BT.out); (have c8 : w8.cell? ⟨w6.heap.size, 3, none⟩ = some (.int .i64 m) := (blk_cell hb8 3).trans rfl); (have k8 := reads_at (Kd.C_below HR.out h2) hlt ((rd_at l0 i).trans HV.out.symm)); clear h1 h2 h3 hb8)
     go_roundg (G - 1)
     case measure => have := HG.out; have := HGK.out; omega
     case rel => exact ⟨i + m, S ++ [(sy, mo, bt, (m : Int))], by go_num, HS.out.2.2.1, by rw [HS.out.2.2.2], ⟨by have := HG.out; have := HS.out.2.1; omega⟩, ⟨HS.out.1⟩, ⟨by rw [List.map_append]; exact HO8.out⟩, HB8⟩

/-! ### shrink_less: function 65 (by hand) -/
def shrink_less.l0 : Nat → List Int → Int → Option (List Int)
 | 0, _, _ => none
 | k + 1, x0, x1 => if (x0.length : Int) > x1 then (if 0 ≤ (wrap64 ((x0.length : Int) - 1)) then (if (wrap64 ((x0.length : Int) - 1)) < (x0.length : Int) then (if (rd x0 (wrap64 ((x0.length : Int) - 1))) = 0 then (if (wrap64 ((x0.length : Int) - 1)) ≤ (x0.length : Int) then (shrink_less.l0 k (x0.take ((wrap64 ((x0.length : Int) - 1)) : Int).toNat) x1) else (none)) else (some x0)) else (none)) else (none)) else (some x0)
def shrink_less.f (k : Nat) (l0 : List Int) (a1 : Int) : Option (List Int) := shrink_less.l0 k l0 a1
set_option maxHeartbeats 8000000 in
set_option maxRecDepth 100000 in
theorem shrink_less.calls (k : Nat) (P0_ : Nat → Prop) (A0 : Option Addr) (c0 : Nat) (l0 : List Int) (a1 : Int) (r : List Int) (w : World) (hs0 : Kd.V (Kd.int .i64) 3 w w.heap.size (fun k_ => P0_ k_) (.slice A0 l0.length c0) l0) (h : shrink_less.f k l0 a1 = some r) :
  Calls Try.prog 65 #[.slice A0 l0.length c0, .int .i64 a1] w fun e w' => ∃ v0_ : Value, e = .returned (v0_) ∧ Kd.V (Kd.int .i64) 3 w' w.heap.size (fun k_ => (P0_ k_)) v0_ r ∧ Below w.heap.size w w' := by
 have HO0 := Aside0.mk hs0
 have HB := Aside0.mk (Below.refl w.heap.size w)
 have H : (shrink_less.l0 k l0 a1) = some r := h
 clear h
 have H' := Aside0.mk H
 clear H
 go_enter Try.func65, Try.ntmps65
 go_wp2
 go_loopg [0] k (fun kq v0 w' => ∃ (x0_1 : List Int), Aside0 (shrink_less.l0 kq x0_1 a1 = some r) ∧ Aside0 (kq ≤ k) ∧ Aside0 (Kd.V (Kd.int .i64) 3 w' w.heap.size (fun k_ => (P0_ k_)) v0 x0_1) ∧ Aside0 (Below w.heap.size w w'))
 case atStart => exact ⟨(l0), H', ⟨Nat.le_refl _⟩, ⟨by (with_reducible repeat (first | apply Kd.V_alloc | apply Kd.V_drewN | apply Kd.V_drew)); exact HO0.out⟩, ⟨by repeat (first | (with_reducible first | exact HB.out | apply below_alloc | apply pw_below_drewN | apply below_drew1) | exact HB.out)⟩⟩
 case round =>
  clear H'
  try clear p2
  obtain ⟨x0_1, HA, HK1, HO_0, HB⟩ := hrel
  cases gk with
  | zero => exact absurd HA.out (by simp [shrink_less.l0])
  | succ k1 =>
   have H := HA.out
   clear HA
   simp only [shrink_less.l0] at H
   by_cases c3 : (x0_1.length : Int) > a1
   ·rw [if_pos c3] at H
    have c3b0 : decide (a1 < (x0_1.length : Int)) = true := decide_eq_true c3
    clear c3
    obtain ⟨ji4, hji4⟩ : ∃ j_ : Int, (wrap64 ((x0_1.length : Int) - 1)) = j_ := ⟨_, rfl⟩
    replace H : (if 0 ≤ (ji4) then (if (ji4) < (x0_1.length : Int) then (if (rd x0_1 (ji4)) = 0 then (if (ji4) ≤ (x0_1.length : Int) then (shrink_less.l0 k1 (x0_1.take ((ji4) : Int).toNat) a1) else (none)) else (some x0_1)) else (none)) else (none)) = some r := by first | (rw [hji4] at H; exact H) | (simp only [hji4] at H ⊢; exact H)
    have hji4w : (IntKind.i64.wrap ((x0_1.length : Int) - 1)) = ji4 := (i64_w _).trans hji4
    by_cases c5 : 0 ≤ (ji4)
    ·rw [if_pos c5] at H
     have c5b0 : decide (0 ≤ (ji4)) = true := decide_eq_true c5
     clear c5
     by_cases c6 : (ji4) < (x0_1.length : Int)
     ·rw [if_pos c6] at H
      have c6b0 : decide ((ji4) < (x0_1.length : Int)) = true := decide_eq_true c6
      clear c6
      by_cases c7 : (rd x0_1 (ji4)) = 0
      ·rw [if_pos c7] at H
       have c7b0 : ((rd x0_1 (ji4)) == 0) = true := beq_iff_eq.mpr c7
       have c7b1 : ((rd x0_1 (ji4)) != 0) = false := bne_eq_false_iff_eq.mpr c7
       clear c7
       have c8b0 := eq_true (of_decide_eq_true (by first | (with_reducible assumption) | assumption) : 0 ≤ (ji4))
       by_cases c9 : (ji4) ≤ (x0_1.length : Int)
       ·rw [if_pos c9] at H
        have c9b0 := eq_true c9
        have c9b1 : decide ((ji4) ≤ (x0_1.length : Int)) = true := decide_eq_true c9
        clear c9
        obtain ⟨y198, hy198⟩ : ∃ y_ : List Int, y_ = (x0_1.take ((ji4) : Int).toNat) := ⟨_, rfl⟩
        replace H : (shrink_less.l0 k1 y198 a1) = some r := by first | (rw [hy198]; with_reducible exact H) | (have H2_ := (Option.bind_some _ _).symm.trans H; rw [hy198]; with_reducible exact H2_) | (have H2_ := (Option.bind_some _ _).symm.trans H; with_reducible exact H2_) | with_reducible exact H | (rw [hy198]; exact H) | exact H
        have Ny198 := Aside0.mk hy198
        clear hy198
        have H' := Aside0.mk H
        clear H
        obtain ⟨Ao10, co10, eo10⟩ := Kd.V_slice HO_0.out
        subst eo10
        have p197 : 0 ≤ ((ji4) : Int) := of_decide_eq_true (by first | (with_reducible assumption) | assumption)
        have q197 : (ji4) < (x0_1.length : Int) := of_decide_eq_true (by first | (with_reducible assumption) | assumption)
        obtain ⟨ad197, e197, hx197_0⟩ := Kd.at_int (Kd.V_reads' HO_0.out).2.2 (ji4) p197 q197
        cases e197
        replace p197 := eq_true p197
        replace q197 := eq_true q197
        have q11 : ((ji4) : Int) ≤ ((x0_1.length : Int) : Int) := of_decide_eq_true (by first | (with_reducible assumption) | assumption)
        obtain ⟨i011, hi011, _, hsz11, _⟩ := info_parts info3
        have hroom11 : x0_1.length ≤ co10 := (Kd.V_reads' HO_0.out).2.1
        have hC11 : Kd.F (Kd.int .i64) _ _ (some ad197) x0_1.length x0_1 := (Kd.V_at (base := w.heap.size) HO_0.out).2.2
        have hcut11 := cut_to (P := Try.prog) 32 3 .i64 Try.underlying32 hi011 (some ad197) x0_1.length co10 (ji4) (of_decide_eq_true (by first | (with_reducible assumption) | assumption)) q11 hroom11
        have hr11 := Kd.F_take (m := ((ji4) : Int).toNat) hC11 (by omega)
        have hy11 : y198.length = ((ji4) : Int).toNat := (by rw [Ny198.out, List.length_take]; omega)
        rw [← Ny198.out] at hr11
        rw [← hy11] at hcut11
        have HO202 := Aside0.mk (show Kd.V (Kd.int .i64) 3 _ w.heap.size _ (.slice (some ad197) y198.length co10) y198 from Kd.V_mk (by omega) hr11)
        have HC202 := Aside0.mk (show y198.length ≤ co10 from by omega)
        clear hr11 hC11 hroom11 hi011 hsz11
        have KY11 := Aside0.mk hy11
        clear hy11
        replace q11 := eq_true q11
        go_wp2
        go_roundg k1
        case measure => have := HK1.out; omega
        case rel => exact ⟨(y198), H', ⟨by have := HK1.out; omega⟩, ⟨by (with_reducible repeat (first | apply Kd.V_alloc | apply Kd.V_drewN | apply Kd.V_drew)); exact HO202.out⟩, ⟨by repeat (first | (with_reducible first | exact HB.out | apply below_alloc | apply pw_below_drewN | apply below_drew1) | exact HB.out)⟩⟩
       ·rw [if_neg c9] at H
        exact absurd H (by simp)
      ·rw [if_neg c7] at H
       have c7b0 : ((rd x0_1 (ji4)) == 0) = false := beq_eq_false_iff_ne.mpr c7
       have c7b1 : ((rd x0_1 (ji4)) != 0) = true := bne_iff_ne.mpr c7
       obtain rfl := Option.some.inj H
       obtain ⟨Ao12, co12, eo12⟩ := Kd.V_slice HO_0.out
       subst eo12
       have p197 : 0 ≤ ((ji4) : Int) := of_decide_eq_true (by first | (with_reducible assumption) | assumption)
       have q197 : (ji4) < (x0_1.length : Int) := of_decide_eq_true (by first | (with_reducible assumption) | assumption)
       obtain ⟨ad197, e197, hx197_0⟩ := Kd.at_int (Kd.V_reads' HO_0.out).2.2 (ji4) p197 q197
       cases e197
       replace p197 := eq_true p197
       replace q197 := eq_true q197
       go_wp2
       go_ret
       exact ⟨_, by first | rfl | (simp [errW_none, errW_some] <;> rfl) | (simp only [← hji4]; first | rfl | (simp [errW_none, errW_some] <;> rfl)) | (simp [*, errW_none, errW_some] <;> rfl), by (with_reducible repeat (first | apply Kd.V_alloc | apply Kd.V_drewN | apply Kd.V_drew)); exact HO_0.out, by repeat (first | (with_reducible first | exact HB.out | apply below_alloc | apply pw_below_drewN | apply below_drew1) | exact HB.out)⟩
     ·rw [if_neg c6] at H
      exact absurd H (by simp)
    ·rw [if_neg c5] at H
     exact absurd H (by simp)
   ·rw [if_neg c3] at H
    have c3b0 : decide (a1 < (x0_1.length : Int)) = false := decide_eq_false c3
    clear c3
    obtain rfl := Option.some.inj H
    obtain ⟨Ao13, co13, eo13⟩ := Kd.V_slice HO_0.out
    subst eo13
    go_wp2
    go_ret
    exact ⟨_, by first | rfl | (simp [errW_none, errW_some] <;> rfl) | (simp [*, errW_none, errW_some] <;> rfl), by (with_reducible repeat (first | apply Kd.V_alloc | apply Kd.V_drewN | apply Kd.V_drew)); exact HO_0.out, by repeat (first | (with_reducible first | exact HB.out | apply below_alloc | apply pw_below_drewN | apply below_drew1) | exact HB.out)⟩

/-! ### sym_Fixed: function 61 (by hand) -/
section
variable {P : Program} {ops : Array Oper} {o : Oper} {rest : List Oper} {a : Act} {Q : Exit → Act → World → Prop}
/-- Two rows of whole numbers that lie apart: one of them grows. -/
theorem two_append {w0 W : World} {t : TypeId} {u v : Value} {xs ys : List Int} {p : Int} {s x : Operand} (hgd : o.guard = none)
  (ho : o.op = .call { callee := .builtin .append, args := #[s, x], argTypes := #[t, t] })
  (ht : P.underlying t = some (.slice 3)) (hinfo : (P.info? 3).map (fun i => (i.zero, i.size, i.bytes)) = some (some (.int .i64 0), 1, 8))
  (hs : a.eval s = v) (hx : a.eval x = .slice (some ⟨W.heap.size, 0, none⟩) 1 1)
  (HO : Kd.R (Kd.int .i64) 3 W w0.heap.size (fun k => some k ≠ u.ownBlock) v xs) (HU : Kd.R (Kd.int .i64) 3 W w0.heap.size (fun k => some k ≠ v.ownBlock) u ys) (HB : Below w0.heap.size w0 W) (hl : xs.length ≤ 1000000)
  (h : ∀ v1 w1, Kd.R (Kd.int .i64) 3 w1 w0.heap.size (fun k => some k ≠ u.ownBlock) v1 (xs ++ [p]) → Kd.R (Kd.int .i64) 3 w1 w0.heap.size (fun k => some k ≠ v1.ownBlock) u ys → Below w0.heap.size w0 w1 → W.grownBy w1 v.ownBlock → wpList P ops Q rest (a.put o.dst v1) w1) :
  wpList P ops Q (o :: rest) a (W.alloc (.cells #[.int .i64 p] 3)) := by
 refine Kd.R_append (Kd.int .i64) (w0 := w0) w0.heap.size hgd s x t 3 (.int .i64 0) 8 ho ht hinfo rfl (by decide) (by omega) v xs p [.int .i64 p] (fun k => some k ≠ u.ownBlock) (fun _ => False) hs hx rfl (fun _ hk => hk.elim) (fun k hk => Kd.fresh' (Kd.R_lt HU) k hk) HO HB HB.size (by omega) ?_
 intro v1 w1 ho1 hb1 hg1 hat1
 exact h v1 w1 ho1 (Kd.R_mono (Kd.R_after (ok := fun _ => True) (Kd.R_mono HU (fun _ hk => ⟨trivial, hk⟩)) hg1 hat1) (fun _ hk => hk.2)) hb1 hg1
end
/-- The fixed lengths. -/
def fixN (i : Nat) : Int := if i < 144 then 8 else if i < 256 then 9 else if i < 280 then 7 else 8
def fixAt (i : Nat) : List Int := (List.range i).map fixN
theorem fixAt_succ (i : Nat) : fixAt (i + 1) = fixAt i ++ [fixN i] := by unfold fixAt; rw [List.range_succ, List.map_append]; rfl
theorem fixAt_len (i : Nat) : (fixAt i).length = i := by unfold fixAt; rw [List.length_map, List.length_range]
def sym_Fixed.f : Option (List Int × List Int) := some (fixAt 288, List.replicate 32 5)
set_option maxHeartbeats 8000000 in
set_option maxRecDepth 100000 in
theorem sym_Fixed.calls  (r1 : List Int) (r2 : List Int) (w : World) (h : sym_Fixed.f  = some (r1, r2)) :
  Calls Try.prog 61 #[] w fun e w' => ∃ v0_ v1_ : Value, e = .returned (.tuple #[v0_, v1_]) ∧ Kd.R (Kd.int .i64) 3 w' w.heap.size (fun k_ => some k_ ≠ (v1_ : Value).ownBlock) v0_ r1 ∧ Kd.R (Kd.int .i64) 3 w' w.heap.size (fun k_ => some k_ ≠ (v0_ : Value).ownBlock) v1_ r2 ∧ Below w.heap.size w w' := by
 unfold sym_Fixed.f at h
 injection h with h
 injection h with h1 h2
 have H1 := Aside0.mk h1
 have H2 := Aside0.mk h2
 clear h1 h2
 go_enter Try.func61, Try.ntmps61
 go_wp2_with fail
 go_loopg [0, 4] 288 (fun kq va vi w' => ∃ i : Nat, vi = .int .i64 i ∧ i ≤ 288 ∧ Aside0 (kq + i = 288) ∧ Aside0 (Kd.R (Kd.int .i64) 3 w' w.heap.size (fun _ => True) va (fixAt i)) ∧ Aside0 (Below w.heap.size w w'))
 case atStart => exact ⟨0, rfl, Nat.zero_le _, ⟨rfl⟩, ⟨Kd.R_nil _ _ _ _ _⟩, ⟨Below.refl _ _⟩⟩
 case round =>
  obtain ⟨i, rfl, hi, HG, HO, HB⟩ := hrel
  by_cases hlt : i < 288
  rotate_left
  ·obtain rfl : i = 288 := by omega
   go_wp2_with fail
   go_loopg [1, 26] 32 (fun kq va vi w' => ∃ j : Nat, vi = .int .i64 j ∧ j ≤ 32 ∧ Aside0 (kq + j = 32) ∧ Aside0 (Kd.R (Kd.int .i64) 3 w' w.heap.size (fun k => some k ≠ va.ownBlock) u0 (fixAt 288)) ∧ Aside0 (Kd.R (Kd.int .i64) 3 w' w.heap.size (fun k => some k ≠ u0.ownBlock) va (List.replicate j 5)) ∧ Aside0 (Below w.heap.size w w'))
   case atStart => exact ⟨0, rfl, Nat.zero_le _, ⟨rfl⟩, ⟨Kd.R_mono HO.out (fun _ _ e => by cases e)⟩, ⟨Kd.R_nil _ _ _ _ _⟩, HB⟩
   case round =>
    clear HB HO
    obtain ⟨j, rfl, hj, HG2, HO, HP, HB⟩ := hrel
    by_cases hlt2 : j < 32
    rotate_left
    ·obtain rfl : j = 32 := by omega
     go_wp2_with fail
     go_ret2
     exact ⟨_, _, rfl, by rw [← H1.out]; exact HO.out, by rw [← H2.out]; exact HP.out, HB.out⟩
    go_wp2_with ((with_reducible refine gate_builtin (b := .append) rfl ?_); at_builtin; refine two_append rfl rfl Try.underlying32 info3 rfl rfl HP.out HO.out HB.out (by first | (rw [fixAt_len]; omega) | (rw [List.length_replicate]; omega)) ?_; intro v9 w9 ho1 ho2 hb1 hg1; (have Q1 := Aside0.mk ho1); (have Q2 := Aside0.mk ho2); (have QB := Aside0.mk hb1); clear ho1 ho2 hb1 hg1)
    go_roundg (gk - 1)
    case measure => have := HG2.out; omega
    case rel => exact ⟨j + 1, by go_num, by omega, ⟨by have := HG2.out; omega⟩, Q2, ⟨by rw [List.replicate_succ']; exact Q1.out⟩, QB⟩
  have HS := Aside0.mk (fixAt_succ i)
  rcases (by omega : i < 144 ∨ (144 ≤ i ∧ i < 256) ∨ (256 ≤ i ∧ i < 280) ∨ 280 ≤ i) with c | c | c | c
  case' inl =>
   have d0 : decide ((144 : Int) ≤ (i : Int)) = false := decide_eq_false (by omega)
   have d2 : decide ((256 : Int) ≤ (i : Int)) = false := decide_eq_false (by omega)
   have hv : fixN i = 8 := if_pos c
   clear c
  case' inr.inl =>
   have d0 : decide ((144 : Int) ≤ (i : Int)) = true := decide_eq_true (by omega)
   have d1 : decide ((i : Int) ≤ 255) = true := decide_eq_true (by omega)
   have hv : fixN i = 9 := by unfold fixN; rw [if_neg (by omega), if_pos c.2]
   clear c
  case' inr.inr.inl =>
   have d0 : decide ((144 : Int) ≤ (i : Int)) = true := decide_eq_true (by omega)
   have d1 : decide ((i : Int) ≤ 255) = false := decide_eq_false (by omega)
   have d2 : decide ((256 : Int) ≤ (i : Int)) = true := decide_eq_true (by omega)
   have d3 : decide ((i : Int) ≤ 279) = true := decide_eq_true (by omega)
   have hv : fixN i = 7 := by unfold fixN; rw [if_neg (by omega), if_neg (by omega), if_pos c.2]
   clear c
  case' inr.inr.inr =>
   have d0 : decide ((144 : Int) ≤ (i : Int)) = true := decide_eq_true (by omega)
   have d1 : decide ((i : Int) ≤ 255) = false := decide_eq_false (by omega)
   have d2 : decide ((256 : Int) ≤ (i : Int)) = true := decide_eq_true (by omega)
   have d3 : decide ((i : Int) ≤ 279) = false := decide_eq_false (by omega)
   have hv : fixN i = 8 := by unfold fixN; rw [if_neg (by omega), if_neg (by omega), if_neg (by omega)]
   clear c
  all_goals
   go_wp2_with ((with_reducible refine gate_builtin (b := .append) rfl ?_); at_builtin; refine two_append rfl rfl Try.underlying32 info3 rfl rfl (Kd.R_mono HO.out (fun _ _ e => by cases e) : Kd.R (Kd.int .i64) 3 _ w.heap.size (fun k => some k ≠ (Value.slice none 0 0).ownBlock) _ _) (Kd.R_nil _ _ _ _ _) HB.out (by first | (rw [fixAt_len]; omega) | (rw [List.length_replicate]; omega)) ?_; intro v9 w9 ho1 ho2 hb1 hg1; (have Q1 := Aside0.mk ho1); (have Q2 := Aside0.mk ho2); (have QB := Aside0.mk hb1); clear ho1 ho2 hb1 hg1)
   go_roundg (gk - 1)
   case measure => have := HG.out; omega
   case rel => exact ⟨i + 1, by go_num, by omega, ⟨by have := HG.out; omega⟩, ⟨by rw [HS.out, hv]; exact Kd.R_mono Q1.out (fun _ _ => trivial)⟩, QB⟩

/-! ### shrink_known: function 35 (by hand) -/
theorem tokrow_keepP {W W1 : World} {base : Nat} {ok : Nat → Prop} {v : Value} {l : List S53} (h : Kd.R k53 53 W base ok v l) (hk : KeepP W W1) : Kd.R k53 53 W1 base ok v l := by
 refine Kd.R_mono (Kd.R_move (Kd.R_bound h) (fun k hk' => ?_)) (fun _ hk' => hk'.1)
 obtain ⟨_, _, _, q, hq, cells, hc⟩ := hk'
 have hq' : q = 53 := by simpa [k53, Kd.iso, Kd.pair, Kd.int, Kd.scalar] using hq
 subst hq'
 exact (hk.2 k cells _ hc (by decide) (by decide)).trans hc.symm
theorem readsT_own {w : World} {base : Nat} {ok : Nat → Prop} {A : Option Addr} {n c : Nat} {l : List S53} (h : Kd.R k53 53 w base ok (.slice A n c) l) : ReadsT w A l ∧ n = l.length ∧ l.length ≤ c :=
 ⟨fun W hW => (Kd.R_reads' (tokrow_keepP h hW)).2.2, (Kd.R_reads' h).1, by have h1 := (Kd.R_reads' h).1; have h2 := (Kd.R_reads' h).2.1; omega⟩
theorem ReadsT.keep {w w1 : World} {A : Option Addr} {l : List S53} (h : ReadsT w A l) (hk : KeepP w w1) : ReadsT w1 A l := fun W hW => h W (hk.trans hW)
/-- Tokens by the fixed lengths. -/
def knownS (l : List S53) : Option (List Int × Nat) := (beginS 1).bind fun s => (sym_Fixed.f).bind fun f => bodyS l f.1 f.2 s
set_option maxHeartbeats 8000000 in
set_option maxRecDepth 100000 in
theorem shr_known (A0 : Option Addr) (c0 : Nat) (l : List S53) (sr : List Int × Nat) (w : World) (hr0 : ReadsT w A0 l) (hc0 : l.length ≤ c0) (hl : l.length ≤ 1000000) (h : knownS l = some sr) :
  Calls Try.prog 35 #[.slice A0 l.length c0] w fun e w' => ∃ g, e = .returned (.pointer (some ⟨g, 0, none⟩)) ∧ PenAt w w' g sr ∧ Below w.heap.size w w' := by
 unfold knownS at h
 obtain ⟨s1, h1, h⟩ := Option.bind_eq_some_iff.1 h
 obtain ⟨⟨r1, r2⟩, h2, h⟩ := Option.bind_eq_some_iff.1 h
 have H1 := Aside0.mk h1
 have H2 := Aside0.mk h2
 have HL := Aside0.mk h
 have HR := Aside0.mk hr0
 clear h1 h2 h hr0
 go_enter Try.func35, Try.ntmps35
 go_wp2_with fail
 refine (shr_begin 1 s1 w H1.out).mono ?_
 rintro e w1 ⟨g, rfl, hP1, hB1⟩
 have HP1 := Aside0.mk hP1
 have HB1 := Aside0.mk hB1
 clear hP1 hB1 H1
 go_wp2_with fail
 refine (sym_Fixed.calls r1 r2 w1 H2.out).mono ?_
 rintro e w2 ⟨v1, v2, rfl, ho1, ho2, hb2⟩
 obtain ⟨A1, c1, e1⟩ := Kd.R_slice ho1
 subst e1
 obtain ⟨A2, c2, e2⟩ := Kd.R_slice ho2
 subst e2
 obtain ⟨ra, _, hca⟩ := readsP_own ho1
 obtain ⟨rb, _, hcb⟩ := readsP_own ho2
 have RA := Aside0.mk ra
 have RB := Aside0.mk rb
 have HP2 := Aside0.mk (HP1.out.below hb2)
 have HB2 := Aside0.mk (below_then HB1.out HB1.out.size hb2)
 clear ra rb hb2 ho1 ho2 HP1 HB1 H2
 go_wp2_with fail
 refine (pen_body g A0 A1 A2 c0 c1 c2 l r1 r2 s1 sr w w2 HP2.out HB2.out (HR.out.keep (KeepP.of_below HB2.out)) hc0 hl RA.out hca RB.out hcb HL.out).mono ?_
 rintro e w3 ⟨rfl, hP3, hB3, _⟩
 go_wp2_with fail
 go_ret
 exact ⟨g, rfl, hP3, hB3⟩

/-! ### shrink_Order: function 67 -/
def shrink_Order.f  : Option (List Int) := some (([16, 17, 18, 0, 8, 7, 9, 6, 10, 5, 11, 4, 12, 3, 13, 2, 14, 1, 15] : List Int))
set_option maxHeartbeats 8000000 in
set_option maxRecDepth 100000 in
theorem shrink_Order.calls  (r : List Int) (w : World) (h : shrink_Order.f  = some r) :
  Calls Try.prog 67 #[] w fun e w' => ∃ v0_ : Value, e = .returned (v0_) ∧ Kd.R (Kd.int .i64) 3 w' w.heap.size (fun _ => True) v0_ r ∧ Below w.heap.size w w' := by
 have HB := Aside0.mk (Below.refl w.heap.size w)
 have H : (some (([16, 17, 18, 0, 8, 7, 9, 6, 10, 5, 11, 4, 12, 3, 13, 2, 14, 1, 15] : List Int))) = some r := h
 clear h
 obtain ⟨y126, hy126⟩ : ∃ y_ : List Int, y_ = (([16, 17, 18, 0, 8, 7, 9, 6, 10, 5, 11, 4, 12, 3, 13, 2, 14, 1, 15] : List Int)) := ⟨_, rfl⟩
 replace H : (some y126) = some r := by first | (rw [hy126]; with_reducible exact H) | (have H2_ := (Option.bind_some _ _).symm.trans H; rw [hy126]; with_reducible exact H2_) | (have H2_ := (Option.bind_some _ _).symm.trans H; with_reducible exact H2_) | with_reducible exact H | (rw [hy126]; exact H) | exact H
 have Ny126 := Aside0.mk hy126
 clear hy126
 obtain rfl := Option.some.inj H
 go_enter Try.func67, Try.ntmps67
 go_wp2_with (first | ((with_reducible refine gate_dst (N := 1) rfl ?_); refine Kd.R_lit (Kd.int .i64) _ 3 ?hg (N := 1) ?hd (xs := ([16, 17, 18, 0, 8, 7, 9, 6, 10, 5, 11, 4, 12, 3, 13, 2, 14, 1, 15] : List Int)) (inner := [.int .i64 16, .int .i64 17, .int .i64 18, .int .i64 0, .int .i64 8, .int .i64 7, .int .i64 9, .int .i64 6, .int .i64 10, .int .i64 5, .int .i64 11, .int .i64 4, .int .i64 12, .int .i64 3, .int .i64 13, .int .i64 2, .int .i64 14, .int .i64 1, .int .i64 15]) (ok := fun _ => True) (okp := fun _ => True) ?hr ?hp (fun _ hk => hk) trivial (Below.refl _ _) (Nat.le_refl _) (by simp) ?_; (case hd => rfl); (case hg => rfl); (case hr => first | (go_simp; done) | (go_simp; rfl)); (case hp => exact (Reps.one (show Kd.M (Kd.int .i64) _ _ _ 16 [.int .i64 16] from rfl) (Reps.one (show Kd.M (Kd.int .i64) _ _ _ 17 [.int .i64 17] from rfl) (Reps.one (show Kd.M (Kd.int .i64) _ _ _ 18 [.int .i64 18] from rfl) (Reps.one (show Kd.M (Kd.int .i64) _ _ _ 0 [.int .i64 0] from rfl) (Reps.one (show Kd.M (Kd.int .i64) _ _ _ 8 [.int .i64 8] from rfl) (Reps.one (show Kd.M (Kd.int .i64) _ _ _ 7 [.int .i64 7] from rfl) (Reps.one (show Kd.M (Kd.int .i64) _ _ _ 9 [.int .i64 9] from rfl) (Reps.one (show Kd.M (Kd.int .i64) _ _ _ 6 [.int .i64 6] from rfl) (Reps.one (show Kd.M (Kd.int .i64) _ _ _ 10 [.int .i64 10] from rfl) (Reps.one (show Kd.M (Kd.int .i64) _ _ _ 5 [.int .i64 5] from rfl) (Reps.one (show Kd.M (Kd.int .i64) _ _ _ 11 [.int .i64 11] from rfl) (Reps.one (show Kd.M (Kd.int .i64) _ _ _ 4 [.int .i64 4] from rfl) (Reps.one (show Kd.M (Kd.int .i64) _ _ _ 12 [.int .i64 12] from rfl) (Reps.one (show Kd.M (Kd.int .i64) _ _ _ 3 [.int .i64 3] from rfl) (Reps.one (show Kd.M (Kd.int .i64) _ _ _ 13 [.int .i64 13] from rfl) (Reps.one (show Kd.M (Kd.int .i64) _ _ _ 2 [.int .i64 2] from rfl) (Reps.one (show Kd.M (Kd.int .i64) _ _ _ 14 [.int .i64 14] from rfl) (Reps.one (show Kd.M (Kd.int .i64) _ _ _ 1 [.int .i64 1] from rfl) (Reps.one (show Kd.M (Kd.int .i64) _ _ _ 15 [.int .i64 15] from rfl) (Reps.none _ _))))))))))))))))))))); intro v127 w1 ho2 hb hg_ hnew_; clear hg_ hnew_; (first | rw [← Ny126.out] at ho2 | (simp only [Int.reduceToNat] at ho2; rw [← Ny126.out] at ho2)); have n0_ := Aside0.mk (Kd.R_lower ho2 (below_size (by repeat (first | (with_reducible first | exact HB.out | apply below_alloc | apply pw_below_drewN | apply below_drew1) | exact HB.out)))); have n1_ := Aside0.mk (below_step (by repeat (first | (with_reducible first | exact HB.out | apply below_alloc | apply pw_below_drewN | apply below_drew1) | exact HB.out)) hb); clear HB; have HO128 := n0_; have HB := n1_; clear n0_ n1_; clear hb ho2))
 go_ret
 exact ⟨_, by first | rfl | (simp [errW_none, errW_some] <;> rfl) | (simp [*, errW_none, errW_some] <;> rfl), by (with_reducible repeat (first | apply Kd.R_alloc | apply Kd.R_drewN | apply Kd.R_drew)); exact HO128.out, by repeat (first | (with_reducible first | exact HB.out | apply below_alloc | apply pw_below_drewN | apply below_drew1) | exact HB.out)⟩

/-! ### shrink_made: function 36 (by hand) -/
/-- Blocks of whole numbers. -/
def IntB (W : World) (k : Nat) : Prop := ∃ cells, W.heap[k]? = some (.cells cells 3 (0, 0))
theorem intview {w : World} {base : Nat} {ok : Nat → Prop} {v : Value} {l : List Int} (h : Kd.R (Kd.int .i64) 3 w base ok v l) : Kd.V (Kd.int .i64) 3 w w.heap.size (fun k => IntB w k) v l := by
 refine Kd.R_V (Kd.R_mono (Kd.R_bound h) (fun k hk' => ?_))
 obtain ⟨_, _, _, q, hq, cells, hc⟩ := hk'
 have hq' : q = 3 := by simpa [Kd.int, Kd.scalar] using hq
 subst hq'
 exact ⟨cells, hc⟩
theorem readsP_view {w w1 : World} {A : Option Addr} {n c : Nat} {l : List Int} (h : Kd.V (Kd.int .i64) 3 w1 w.heap.size (fun k => IntB w k) (.slice A n c) l) (hb : Below w.heap.size w w1) : ReadsP w1 A l ∧ n = l.length ∧ l.length ≤ c := by
 refine ⟨fun W hW => (Kd.V_reads' (Kd.V_step h (fun k hk _ => ?_))).2.2, (Kd.V_reads' h).1, by have h1 := (Kd.V_reads' h).1; have h2 := (Kd.V_reads' h).2.1; omega⟩
 obtain ⟨cells, hc⟩ := hk
 have h1 := (hb.block k (heap_ltP hc)).trans hc
 exact (hW.2 k cells _ h1 (by decide) (by decide)).trans h1.symm
theorem steprow_keepP {W W1 : World} {base : Nat} {ok : Nat → Prop} {v : Value} {l : List S76} (h : Kd.R k76 76 W base ok v l) (hk : KeepP W W1) : Kd.R k76 76 W1 base ok v l := by
 refine Kd.R_mono (Kd.R_move (Kd.R_bound h) (fun k hk' => ?_)) (fun _ hk' => hk'.1)
 obtain ⟨_, _, _, q, hq, cells, hc⟩ := hk'
 have hq' : q = 76 := by simpa [k76, Kd.iso, Kd.pair, Kd.int, Kd.scalar] using hq
 subst hq'
 exact (hk.2 k cells _ hc (by decide) (by decide)).trans hc.symm
/-- A row of steps that pens leave. -/
def ReadsS (w : World) (A : Option Addr) (l : List S76) : Prop := ∀ W, KeepP w W → Kd.C k76 W A l.length l
theorem readsS_own {w : World} {base : Nat} {ok : Nat → Prop} {A : Option Addr} {n c : Nat} {l : List S76} (h : Kd.R k76 76 w base ok (.slice A n c) l) : ReadsS w A l ∧ n = l.length ∧ l.length ≤ c :=
 ⟨fun W hW => (Kd.R_reads' (steprow_keepP h hW)).2.2, (Kd.R_reads' h).1, by have h1 := (Kd.R_reads' h).1; have h2 := (Kd.R_reads' h).2.1; omega⟩
theorem ReadsS.keep {w w1 : World} {A : Option Addr} {l : List S76} (h : ReadsS w A l) (hk : KeepP w w1) : ReadsS w1 A l := fun W hW => h W (hk.trans hW)
def ord19 : List Int := [16, 17, 18, 0, 8, 7, 9, 6, 10, 5, 11, 4, 12, 3, 13, 2, 14, 1, 15]
theorem ord19_in : ∀ i : Fin 19, 0 ≤ ord19.getD i.val 0 ∧ ord19.getD i.val 0 < 19 := by decide
/-- How often each symbol of a row stands. -/
def metL : List S76 → List Int → Option (List Int)
 | [], m => some m
 | t :: r, m => if 0 ≤ t.f0 ∧ t.f0 < m.length then metL r (m.set t.f0.toNat (wrap64 (rd m t.f0 + 1))) else none
/-- The lengths' own behind a pen's bits. -/
def lens3 : List Int → List Int × Nat → Option (List Int × Nat)
 | [], s => some s
 | n :: l, s => (addS n 3 s).bind (lens3 l)
/-- A row's symbols behind a pen's bits. -/
def seqL (codes own : List Int) : List S76 → List Int × Nat → Option (List Int × Nat)
 | [], s => some s
 | t :: l, s => (codeS codes own t.f0 s).bind fun s1 => (addS t.f1 t.f2 s1).bind (seqL codes own l)
def madeC (l : List S53) (lits dists own turned : List Int) (row : List S76) (s : List Int × Nat) : Option (List Int × Nat) :=
 if turned.length ≤ 1000000 then (addS (wrap64 (wrap64 ((lits.length : Int) - 256) - 1)) 5 s).bind fun s => (addS (wrap64 ((dists.length : Int) - 1)) 5 s).bind fun s => (addS (wrap64 ((turned.length : Int) - 4)) 4 s).bind fun s =>
  (lens3 turned s).bind fun s => (canon_Codes.f own).bind fun c => (seqL c.1 own row s).bind fun s => bodyS l lits dists s else none
def madeB (l : List S53) (lits dists : List Int) (row : List S76) (s : List Int × Nat) : Option (List Int × Nat) :=
 if row.length ≤ 1000000 then (metL row (List.replicate 19 0)).bind fun met => (tree_Lengths.f met 7).bind fun own => if own.1.length = 19 then (shrink_less.f 400 (ord19.map (rd own.1)) 4).bind fun turned => madeC l lits dists own.1 turned row s else none else none
/-- Tokens by lengths of their own. -/
def madeS (l : List S53) : Option (List Int × Nat) :=
 (beginS 2).bind fun s => (sym_Weights.f l).bind fun w => (tree_Lengths.f w.1 15).bind fun a => (tree_Lengths.f w.2.1 15).bind fun b =>
  (shrink_less.f 400 a.1 257).bind fun lits => (shrink_less.f 400 b.1 1).bind fun dists => if lits.length + dists.length ≤ 1000000 then
   (shrink_steps.f (lits ++ dists)).bind fun row => madeB l lits dists row s else none
set_option maxHeartbeats 2000000 in
set_option maxRecDepth 100000 in
theorem shr_made (A0 : Option Addr) (c0 : Nat) (l : List S53) (sr : List Int × Nat) (w : World) (hr0 : ReadsT w A0 l) (hc0 : l.length ≤ c0) (hl : l.length ≤ 1000000) (h : madeS l = some sr) :
  Calls Try.prog 36 #[.slice A0 l.length c0] w fun e w' => ∃ g, e = .returned (.pointer (some ⟨g, 0, none⟩)) ∧ PenAt w w' g sr ∧ Below w.heap.size w w' := by
 unfold madeS at h
 obtain ⟨s1, h1, h⟩ := Option.bind_eq_some_iff.1 h
 obtain ⟨⟨wa, wb, we⟩, h2, h⟩ := Option.bind_eq_some_iff.1 h
 obtain ⟨⟨la, e1⟩, h3, h⟩ := Option.bind_eq_some_iff.1 h
 obtain ⟨⟨lb, e2⟩, h4, h⟩ := Option.bind_eq_some_iff.1 h
 obtain ⟨lits, h5, h⟩ := Option.bind_eq_some_iff.1 h
 obtain ⟨dists, h6, h⟩ := Option.bind_eq_some_iff.1 h
 split at h
 rotate_left
 ·cases h
 rename_i hlen
 obtain ⟨row, h7, h⟩ := Option.bind_eq_some_iff.1 h
 simp only at h3 h4 h5 h6 h7 h
 have H1 := Aside0.mk h1
 have H2 := Aside0.mk h2
 have H3 := Aside0.mk h3
 have H4 := Aside0.mk h4
 have H5 := Aside0.mk h5
 have H6 := Aside0.mk h6
 have H7 := Aside0.mk h7
 have H := Aside0.mk h
 have HR := Aside0.mk hr0
 have HLN := Aside0.mk hlen
 clear h1 h2 h3 h4 h5 h6 h7 h hr0 hlen
 go_enter Try.func36, Try.ntmps36
 go_wp2_with fail
 refine (shr_begin 2 s1 w H1.out).mono ?_
 rintro e w1 ⟨g, rfl, hP1, hB1⟩
 have HP1 := Aside0.mk hP1
 have HB1 := Aside0.mk hB1
 clear hP1 hB1 H1
 go_wp2_with fail
 refine (sym_Weights.calls A0 c0 l wa wb we w1 (HR.out w1 (KeepP.of_below HB1.out)) hc0 H2.out).mono ?_
 rintro e w2 ⟨v1, v2, rfl, ho1, ho2, hb2⟩
 obtain ⟨A1, c1, e1_⟩ := Kd.R_slice ho1
 subst e1_
 obtain ⟨A2, c2, e2_⟩ := Kd.R_slice ho2
 subst e2_
 obtain ⟨ra, _, hca⟩ := readsP_own ho1
 obtain ⟨rb, _, hcb⟩ := readsP_own ho2
 have RB := Aside0.mk rb
 have HP2 := Aside0.mk (HP1.out.below hb2)
 have HB2 := Aside0.mk (below_then HB1.out HB1.out.size hb2)
 have RA := Aside0.mk ra
 clear rb ra hb2 ho1 ho2 HP1 HB1 H2
 go_wp2_with fail
 refine (tree_Lengths.calls A1 c1 wa 15 la e1 w2 RA.out.now hca H3.out).mono ?_
 rintro e w3 ⟨v3, rfl, ho3, hb3⟩
 have HO3 := Aside0.mk ho3
 have RB3 := Aside0.mk (RB.out.keep (KeepP.of_below hb3))
 have HP3 := Aside0.mk (HP2.out.below hb3)
 have HB3 := Aside0.mk (below_then HB2.out HB2.out.size hb3)
 clear hb3 ho3 HP2 HB2 H3 RB RA
 go_wp2_with fail
 refine (tree_Lengths.calls A2 c2 wb 15 lb e2 w3 RB3.out.now hcb H4.out).mono ?_
 rintro e w4 ⟨v4, rfl, ho4, hb4⟩
 obtain ⟨A3, c3, e3⟩ := Kd.R_slice HO3.out
 subst e3
 obtain ⟨A4, c4, e4⟩ := Kd.R_slice ho4
 subst e4
 have HV3 := Aside0.mk (intview (Kd.R_below HO3.out hb4))
 have HO4 := Aside0.mk ho4
 have HP4 := Aside0.mk (HP3.out.below hb4)
 have HB4 := Aside0.mk (below_then HB3.out HB3.out.size hb4)
 clear hb4 ho4 HP3 HB3 H4 RB3 HO3
 go_wp2_with fail
 refine (shrink_less.calls 400 (fun k => IntB w4 k) A3 c3 la 257 lits w4 HV3.out H5.out).mono ?_
 rintro e w5 ⟨v5, rfl, ho5, hb5⟩
 obtain ⟨A5, c5, e5⟩ := Kd.V_slice ho5
 subst e5
 obtain ⟨r5, _, hc5⟩ := readsP_view ho5 hb5
 have RL5 := Aside0.mk r5
 have HV4 := Aside0.mk (intview (Kd.R_below HO4.out hb5))
 have HP5 := Aside0.mk (HP4.out.below hb5)
 have HB5 := Aside0.mk (below_then HB4.out HB4.out.size hb5)
 clear hb5 ho5 r5 HP4 HB4 H5 HV3 HO4
 go_wp2_with fail
 refine (shrink_less.calls 400 (fun k => IntB w5 k) A4 c4 lb 1 dists w5 HV4.out H6.out).mono ?_
 rintro e w6 ⟨v6, rfl, ho6, hb6⟩
 obtain ⟨A6, c6, e6⟩ := Kd.V_slice ho6
 subst e6
 obtain ⟨r6, _, hc6⟩ := readsP_view ho6 hb6
 have RD6 := Aside0.mk r6
 have RL6 := Aside0.mk (RL5.out.keep (KeepP.of_below hb6))
 have HP6 := Aside0.mk (HP5.out.below hb6)
 have HB6 := Aside0.mk (below_then HB5.out HB5.out.size hb6)
 clear hb6 ho6 r6 HP5 HB5 H6 HV4 RL5
 go_wp2_with fail
 have hal : Below w6.heap.size w6 (w6.alloc (.cells #[.slice A5 lits.length c5, .slice A6 dists.length c6] 32)) := (Below.refl _ _).alloc (Nat.le_refl _) _
 have hk0 := KeepP.of_below hal
 refine (concat_two w6.heap.size A5 A6 c5 c6 lits dists (w6.alloc (.cells #[.slice A5 lits.length c5, .slice A6 dists.length c6] 32)) ((blk_cell (blk_new w6 _) 0).trans rfl) ((blk_cell (blk_new w6 _) 1).trans rfl) (RL6.out.keep hk0).now (RD6.out.keep hk0).now hc5 hc6 HLN.out).mono ?_
 rintro e w7 ⟨v7, rfl, ho7, hb7⟩
 have h7_ := H7.out
 generalize lits ++ dists = LL at ho7 h7_
 have H7L := Aside0.mk h7_
 clear h7_ H7
 obtain ⟨A7, c7, e7⟩ := Kd.R_slice ho7
 subst e7
 obtain ⟨r7, _, hc7⟩ := readsP_own ho7
 have R7 := Aside0.mk r7
 have hk7 := hk0.below hb7
 have RL7 := Aside0.mk (RL6.out.keep hk7)
 have RD7 := Aside0.mk (RD6.out.keep hk7)
 have HP7 := Aside0.mk ((HP6.out.below hal).below hb7)
 have HB7 := Aside0.mk (below_then (HB6.out.alloc HB6.out.size _) (HB6.out.alloc HB6.out.size _).size hb7)
 clear hb7 ho7 r7 HP6 HB6 RL6 RD6 hal hk0 hk7
 go_wp2_with fail
 refine (shrink_steps.calls A7 c7 LL row w7 R7.out.now hc7 H7L.out).mono ?_
 rintro e w8 ⟨v8, rfl, ho8, hb8⟩
 obtain ⟨A8, c8, e8⟩ := Kd.R_slice ho8
 subst e8
 obtain ⟨r8, _, hc8⟩ := readsS_own ho8
 have RS8 := Aside0.mk r8
 have RL8 := Aside0.mk (RL7.out.keep (KeepP.of_below hb8))
 have RD8 := Aside0.mk (RD7.out.keep (KeepP.of_below hb8))
 have HP8 := Aside0.mk (HP7.out.below hb8)
 have HB8 := Aside0.mk (below_then HB7.out HB7.out.size hb8)
 clear hb8 ho8 r8 HP7 HB7 RL7 RD7 R7 H7L
 go_wp2_with fail
 refine (shrink_Order.calls _ w8 rfl).mono ?_
 rintro e w9 ⟨v9, rfl, ho9, hb9⟩
 obtain ⟨g9, c9, e9, hg91, hg92, ocs9, hocs9⟩ := Kd.R_form ho9 (by decide)
 subst e9
 have RS9 := Aside0.mk (RS8.out.keep (KeepP.of_below hb9))
 have RL9 := Aside0.mk (RL8.out.keep (KeepP.of_below hb9))
 have RD9 := Aside0.mk (RD8.out.keep (KeepP.of_below hb9))
 have HP9 := Aside0.mk (HP8.out.below hb9)
 have HB9 := Aside0.mk (below_then HB8.out HB8.out.size hb9)
 clear hb9 ho9 hg91 hg92 hocs9 HP8 HB8 RS8 RL8 RD8
 have hh := H.out
 unfold madeB at hh
 split at hh
 rotate_left
 ·cases hh
 rename_i hrl
 obtain ⟨met, hm, hh⟩ := Option.bind_eq_some_iff.1 hh
 have HM := Aside0.mk hm
 have HH := Aside0.mk hh
 clear hm hh H
 go_wp2_with (refine Kd.R_make (Kd.int .i64) (w0 := w9) w9.heap.size 3 rfl rfl 32 (.tmp 53) (.tmp 53) rfl (19 : Int) rfl rfl Try.underlying32 (.int .i64 0) 8 info3 rfl (by decide) (by decide) (0 : Int) (ok := fun _ => True) (okp := fun _ => False) rfl (fun _ hk => hk.elim) trivial (by omega) (by omega) (Below.refl _ _) (Nat.le_refl _) ?_; intro v1 wB ho hb hg hat; (have HO := Aside0.mk ho); (have HBm := Aside0.mk hb); clear ho hb hg hat)
 rw [show (19 : Int).toNat = 19 from rfl] at HO
 obtain ⟨gm, cm, e1_, hgm1, hgm2, ocsm, hocsm⟩ := Kd.R_form HO.out (by decide)
 rw [List.length_replicate] at e1_
 subst e1_
 have HG0 := Aside0.mk hgm1
 clear hocsm hgm1 hgm2
 go_loopg [57] row.length (fun kq v57 w' => ∃ (i : Nat) (mi : List Int), v57 = .int .i64 i ∧ i ≤ row.length ∧ mi.length = 19 ∧ Aside0 (kq + i = row.length) ∧ Aside0 (metL (row.drop i) mi = some met) ∧ Aside0 (Kd.R (Kd.int .i64) 3 w' w9.heap.size (fun _ => True) (.slice (some ⟨gm, 0, none⟩) 19 cm) mi) ∧ Aside0 (Below w9.heap.size w9 w'))
 case atStart => exact ⟨0, _, rfl, Nat.zero_le _, rfl, ⟨rfl⟩, HM, HO, HBm⟩
 case round =>
  clear HM HO HBm
  obtain ⟨i, mi, rfl, hi, hml, HG, HM, HO, HBm⟩ := hrel
  by_cases hlt : i < row.length
  ·have h := HM.out
   obtain ⟨t, ht⟩ : ∃ t, t = rd_T76 row (i : Int) := ⟨_, rfl⟩
   have hd : row.drop i = t :: row.drop (i + 1) := by
    rw [ht]
    unfold rd_T76
    rw [Int.toNat_natCast, List.getD_eq_getElem?_getD, List.getElem?_eq_getElem hlt]
    exact List.drop_eq_getElem_cons hlt
   rw [hd] at h
   simp only [metL] at h
   split at h
   rotate_left
   ·cases h
   rename_i hq
   have HM2 := Aside0.mk h
   obtain ⟨ad, ead, k0, k1, k2, k3⟩ := at_T76 (RS9.out wr (KeepP.of_below HBm.out)) (i : Int) (by omega) (by omega)
   rw [← ht, Int.toNat_natCast] at k0
   rw [← ht, Int.toNat_natCast] at k1 k2 k3
   subst ead
   clear ht hd h HM
   obtain ⟨q, hq0⟩ : ∃ q : Nat, t.f0 = (q : Int) := ⟨t.f0.toNat, by omega⟩
   have hqi : (q : Int) < 19 := by omega
   have hqn : (0 : Int) ≤ (q : Int) := by omega
   have hq19 : q < 19 := by omega
   rw [hq0] at k0 HM2
   rw [Int.toNat_natCast] at HM2
   clear hq
   have HOa := Aside0.mk (Kd.R_alloc HO.out (.cells #[.int .i64 (q : Int), .int .i64 t.f1, .int .i64 t.f2, .int .i64 t.f3] 76))
   have HBa := Aside0.mk (HBm.out.alloc HBm.out.size (.cells #[.int .i64 (q : Int), .int .i64 t.f1, .int .i64 t.f2, .int .i64 t.f3] 76))
   obtain ⟨hoc, hof⟩ := Kd.R_celln (0 : Int) HOa.out (q : Int) hqn (by omega)
   have HP := Aside0.mk (Kd.R_putn HOa.out (q : Int) (wrap64 (rd mi (q : Int) + 1)))
   have HBp := Aside0.mk (HBa.out.setCell (p := ⟨gm, q, none⟩) HG0.out (.int .i64 (wrap64 (rd mi (q : Int) + 1))))
   rw [Int.toNat_natCast] at hoc hof HP
   rw [show rdOf (0 : Int) mi (q : Int) = rd mi (q : Int) from rfl] at hoc
   obtain ⟨x, hx⟩ : ∃ x, rd mi (q : Int) = x := ⟨_, rfl⟩
   rw [hx] at hoc HP HBp HM2
   clear hx HO HBm HOa HBa
   go_wp2_with fail
   go_roundg (gk - 1)
   case measure => have := HG.out; omega
   case rel => exact ⟨i + 1, _, by go_num, by omega, by rw [List.length_set]; exact hml, ⟨by have := HG.out; omega⟩, HM2, HP, HBp⟩
  obtain rfl : i = row.length := by omega
  have h := HM.out
  rw [List.drop_length] at h
  simp only [metL] at h
  injection h with h
  subst h
  have hh := HH.out
  obtain ⟨⟨own, eo⟩, hown, hh⟩ := Option.bind_eq_some_iff.1 hh
  split at hh
  rotate_left
  ·cases hh
  rename_i hol
  obtain ⟨turned, htu, hh⟩ := Option.bind_eq_some_iff.1 hh
  simp only at hol htu hh
  have HOLN := Aside0.mk hol
  clear hol
  have HOW := Aside0.mk hown
  have HTU := Aside0.mk htu
  have HH2 := Aside0.mk hh
  clear hown htu hh HH HM
  go_wp2_with fail
  have hcm := (Kd.R_reads' HO.out).2.1
  have hcall := tree_Lengths.calls (some ⟨gm, 0, none⟩) cm mi 7 own eo wr (Kd.R_reads' HO.out).2.2 (by omega) HOW.out
  rw [hml] at hcall
  refine hcall.mono ?_
  clear hcall
  rintro e w10 ⟨v10, rfl, ho10, hb10⟩
  obtain ⟨A10, c10, e10⟩ := Kd.R_slice ho10
  subst e10
  obtain ⟨r10, _, hc10⟩ := readsP_own ho10
  have RO10 := Aside0.mk r10
  have hk10 := (KeepP.of_below HBm.out).below hb10
  have RS10 := Aside0.mk (RS9.out.keep hk10)
  have RL10 := Aside0.mk (RL9.out.keep hk10)
  have RD10 := Aside0.mk (RD9.out.keep hk10)
  have HP10 := Aside0.mk ((HP9.out.below HBm.out).below hb10)
  have HB10 := Aside0.mk (below_then (below_then HB9.out HB9.out.size HBm.out) (below_then HB9.out HB9.out.size HBm.out).size hb10)
  clear hb10 ho10 r10 hk10 hcm RS9 RL9 RD9 HP9 HB9 HO HBm HOW hml
  go_wp2_with fail
  refine (shrink_Order.calls _ w10 rfl).mono ?_
  rintro e w11 ⟨v11, rfl, ho11, hb11⟩
  obtain ⟨A11, c11, e11⟩ := Kd.R_slice ho11
  subst e11
  obtain ⟨r11, _, hc11⟩ := readsP_own ho11
  have ROR := Aside0.mk (show ReadsP w11 A11 ord19 from r11)
  have hl19 : ([16, 17, 18, 0, 8, 7, 9, 6, 10, 5, 11, 4, 12, 3, 13, 2, 14, 1, 15] : List Int).length = 19 := rfl
  have hk11 := KeepP.of_below hb11
  have RO11 := Aside0.mk (RO10.out.keep hk11)
  have RS11 := Aside0.mk (RS10.out.keep hk11)
  have RL11 := Aside0.mk (RL10.out.keep hk11)
  have RD11 := Aside0.mk (RD10.out.keep hk11)
  have HP11 := Aside0.mk (HP10.out.below hb11)
  have HB11 := Aside0.mk (below_then HB10.out HB10.out.size hb11)
  clear hb11 ho11 r11 hk11 RO10 RS10 RL10 RD10 HP10 HB10 hc11
  obtain ⟨T0, hT0⟩ : ∃ T0, T0 = ord19.map (rd own) := ⟨_, rfl⟩
  rw [← hT0] at HTU
  have HT0 := Aside0.mk hT0
  clear hT0
  go_wp2_with fail
  go_loopg [17, 76] 19 (fun kq v17 v76 w' => ∃ (i : Nat) (o : List Int), v76 = .int .i64 i ∧ i ≤ 19 ∧ Aside0 (kq + i = 19) ∧ Aside0 (o = T0.take i) ∧ Aside0 (Kd.R (Kd.int .i64) 3 w' w11.heap.size (fun _ => True) v17 o) ∧ Aside0 (Below w11.heap.size w11 w'))
  case atStart => exact ⟨0, [], rfl, Nat.zero_le _, ⟨rfl⟩, ⟨rfl⟩, ⟨Kd.R_nil _ _ _ _ _⟩, ⟨Below.refl _ _⟩⟩
  case round =>
   obtain ⟨i, o, rfl, hi, HG, HJ, HO, HBm⟩ := hrel
   obtain ⟨A9, c9, e9⟩ := Kd.R_slice HO.out
   subst e9
   by_cases hlt : i < 19
   ·have hx := ord19_in ⟨i, hlt⟩
    simp only at hx
    obtain ⟨q, hq⟩ : ∃ q : Nat, ord19.getD i 0 = (q : Int) := ⟨(ord19.getD i 0).toNat, by omega⟩
    have hq19 : (q : Int) < 19 := by omega
    have hq0 : (0 : Int) ≤ (q : Int) := by omega
    have HJL := Aside0.mk (show o.length ≤ 1000000 from by rw [HJ.out, List.length_take]; omega)
    obtain ⟨ad, ead, k0⟩ := Kd.at_int (ROR.out.keep (KeepP.of_below HBm.out)).now (i : Int) (by omega) (by show (i : Int) < 19; omega)
    rw [show rd ord19 (i : Int) = (q : Int) from by unfold rd; rw [Int.toNat_natCast]; exact hq, Int.toNat_natCast] at k0
    subst ead
    obtain ⟨ad2, ead2, k1⟩ := Kd.at_int (RO11.out.keep (KeepP.of_below HBm.out)).now (q : Int) hq0 (by rw [HOLN.out]; exact hq19)
    subst ead2
    obtain ⟨x, hx2⟩ : ∃ x, x = rd own (q : Int) := ⟨_, rfl⟩
    rw [← hx2, Int.toNat_natCast] at k1
    have HX := Aside0.mk (show x = rd own (ord19.getD i 0) from by rw [hq]; exact hx2)
    clear hx2 hq hx
    have hqo : (q : Int) < (own.length : Int) := by rw [HOLN.out]; exact hq19
    go_wp2_with ((with_reducible refine gate_builtin (b := .append) (xs := #[.tmp 80, .tmp 85]) rfl ?_); at_builtin; refine Kd.R_append (Kd.int .i64) (w0 := w11) w11.heap.size rfl (.tmp 80) (.tmp 85) 32 3 (.int .i64 0) 8 rfl Try.underlying32 info3 rfl (by decide) (by omega) (.slice A9 o.length c9) o x [.int .i64 x] (fun _ => True) (fun _ => False) rfl rfl rfl (fun _ hk => hk.elim) (fun _ _ => trivial) HO.out HBm.out HBm.out.size (by have := HJL.out; omega) ?_; intro v5 w12 ho hb hg hat; (have HN5 := Aside0.mk (And.intro ho hb)); clear ho hb hg hat)
    obtain ⟨ho, hb⟩ := HN5.out
    go_roundg (gk - 1)
    case measure => have := HG.out; omega
    case rel =>
     refine ⟨i + 1, _, by go_num, by omega, ⟨by have := HG.out; omega⟩, ⟨?_⟩, ⟨ho⟩, ⟨hb⟩⟩
     have hT : T0[i]? = some x := by rw [HT0.out, HX.out, List.getElem?_map, List.getD_eq_getElem?_getD, List.getElem?_eq_getElem (show i < ord19.length from hlt)]; rfl
     rw [HJ.out, List.take_add_one, hT]; rfl
   obtain rfl : i = 19 := by omega
   have hjo : o = T0 := by rw [HJ.out]; exact List.take_of_length_le (by rw [HT0.out, List.length_map]; decide)
   subst hjo
   go_wp2_with fail
   refine (shrink_less.calls 400 (fun k => IntB wr k) A9 c9 o 4 turned wr (intview HO.out) HTU.out).mono ?_
   rintro e w12 ⟨v12, rfl, ho12, hb12⟩
   obtain ⟨A12, c12, e12⟩ := Kd.V_slice ho12
   subst e12
   obtain ⟨r12, _, hc12⟩ := readsP_view ho12 hb12
   have RT12 := Aside0.mk r12
   have hk12 := (KeepP.of_below HBm.out).below hb12
   have RO12 := Aside0.mk (RO11.out.keep hk12)
   have RS12 := Aside0.mk (RS11.out.keep hk12)
   have RL12 := Aside0.mk (RL11.out.keep hk12)
   have RD12 := Aside0.mk (RD11.out.keep hk12)
   have HP12 := Aside0.mk ((HP11.out.below HBm.out).below hb12)
   have HB12 := Aside0.mk (below_then (below_then HB11.out HB11.out.size HBm.out) (below_then HB11.out HB11.out.size HBm.out).size hb12)
   clear hb12 ho12 r12 hk12 RO11 RS11 RL11 RD11 HP11 HB11 ROR HO HBm HTU HJ HT0 HG
   have hh := HH2.out
   unfold madeC at hh
   split at hh
   rotate_left
   ·cases hh
   rename_i htl
   have HTL := Aside0.mk htl
   clear htl
   obtain ⟨s13, h13, hh⟩ := Option.bind_eq_some_iff.1 hh
   obtain ⟨s14, h14, hh⟩ := Option.bind_eq_some_iff.1 hh
   obtain ⟨s15, h15, hh⟩ := Option.bind_eq_some_iff.1 hh
   obtain ⟨s16, h16, hh⟩ := Option.bind_eq_some_iff.1 hh
   obtain ⟨⟨codes, ec⟩, h17, hh⟩ := Option.bind_eq_some_iff.1 hh
   obtain ⟨s18, h18, hh⟩ := Option.bind_eq_some_iff.1 hh
   simp only at h18 hh
   have H13 := Aside0.mk h13
   have H14 := Aside0.mk h14
   have H15 := Aside0.mk h15
   have H16 := Aside0.mk h16
   have H17 := Aside0.mk h17
   have H18 := Aside0.mk h18
   have H19 := Aside0.mk hh
   clear hh h13 h14 h15 h16 h17 h18 HH2
   go_wp2_with fail
   refine (pen_more g _ 5 s1 s13 w w12 HP12.out HB12.out H13.out).mono ?_
   rintro e w13 ⟨rfl, hP13, hB13, hK13⟩
   have HP13 := Aside0.mk hP13
   have HB13 := Aside0.mk hB13
   have HK13 := Aside0.mk hK13
   clear hP13 hB13 hK13 HP12 HB12 H13
   go_wp2_with fail
   refine (pen_more g _ 5 s13 s14 w w13 HP13.out HB13.out H14.out).mono ?_
   rintro e w14 ⟨rfl, hP14, hB14, hK14⟩
   have HP14 := Aside0.mk hP14
   have HB14 := Aside0.mk hB14
   have HK14 := Aside0.mk (HK13.out.trans hK14)
   clear hP14 hB14 hK14 HP13 HB13 HK13 H14
   go_wp2_with fail
   refine (pen_more g _ 4 s14 s15 w w14 HP14.out HB14.out H15.out).mono ?_
   rintro e w15 ⟨rfl, hP15, hB15, hK15⟩
   have HP15 := Aside0.mk hP15
   have HB15 := Aside0.mk hB15
   have HK15 := Aside0.mk (HK14.out.trans hK15)
   clear hP15 hB15 hK15 HP14 HB14 HK14 H15
   go_wp2_with fail
   go_loopg [114] turned.length (fun kq v114 w' => ∃ (i : Nat) (si : List Int × Nat), v114 = .int .i64 i ∧ i ≤ turned.length ∧ Aside0 (kq + i = turned.length) ∧ Aside0 (lens3 (turned.drop i) si = some s16) ∧ Aside0 (PenAt w w' g si) ∧ Aside0 (Below w.heap.size w w') ∧ Aside0 (KeepP w12 w'))
   case atStart => exact ⟨0, s15, rfl, Nat.zero_le _, ⟨by omega⟩, H16, HP15, HB15, HK15⟩
   case round =>
    clear H16 HP15 HB15 HK15
    obtain ⟨i, si, rfl, hi, HG, HL, HP, HB, HK⟩ := hrel
    have htl := HTL.out
    by_cases hlt : i < turned.length
    ·have h := HL.out
     obtain ⟨ad, ead, k0⟩ := Kd.at_int (RT12.out.keep HK.out).now (i : Int) (by omega) (by omega)
     obtain ⟨t, ht⟩ : ∃ t, t = rd turned (i : Int) := ⟨_, rfl⟩
     rw [← ht, Int.toNat_natCast] at k0
     have hd : turned.drop i = t :: turned.drop (i + 1) := by
      rw [ht]
      unfold rd
      rw [Int.toNat_natCast, List.getD_eq_getElem?_getD, List.getElem?_eq_getElem hlt]
      exact List.drop_eq_getElem_cons hlt
     rw [hd] at h
     simp only [lens3] at h
     obtain ⟨s5, h5, h⟩ := Option.bind_eq_some_iff.1 h
     have H5 := Aside0.mk h5
     have HL1 := Aside0.mk h
     clear h h5 HL hd ht
     subst ead
     go_wp2_with fail
     refine (pen_more g t 3 si s5 w _ HP.out HB.out H5.out).mono ?_
     rintro e w5 ⟨rfl, hP5, hB5, hK5⟩
     have HP5 := Aside0.mk hP5
     have HB5 := Aside0.mk hB5
     have HK5 := Aside0.mk (HK.out.trans hK5)
     clear hP5 hB5 hK5 HP HB HK
     go_wp2_with fail
     go_roundg (gk - 1)
     case measure => have := HG.out; omega
     case rel => exact ⟨i + 1, s5, by go_num, by omega, ⟨by have := HG.out; omega⟩, HL1, HP5, HB5, HK5⟩
    obtain rfl : i = turned.length := by omega
    have h := HL.out
    rw [List.drop_length] at h
    simp only [lens3] at h
    injection h with h
    subst h
    go_wp2_with fail
    refine (canon_Codes.calls A10 c10 own codes ec wr (RO12.out.keep HK.out).now hc10 H17.out).mono ?_
    rintro e w17 ⟨v17, rfl, ho17, hb17⟩
    obtain ⟨A17, c17, e17⟩ := Kd.R_slice ho17
    subst e17
    obtain ⟨r17, _, hc17⟩ := readsP_own ho17
    have RC17 := Aside0.mk r17
    have hk17 := HK.out.below hb17
    have RO17 := Aside0.mk (RO12.out.keep hk17)
    have RS17 := Aside0.mk (RS12.out.keep hk17)
    have RL17 := Aside0.mk (RL12.out.keep hk17)
    have RD17 := Aside0.mk (RD12.out.keep hk17)
    have HP17 := Aside0.mk (HP.out.below hb17)
    have HB17 := Aside0.mk (below_then HB.out HB.out.size hb17)
    clear hb17 ho17 r17 hk17 RO12 RS12 RL12 RD12 HP HB HK RT12 H17 HL HG
    go_wp2_with fail
    go_loopg [131] row.length (fun kq v131 w' => ∃ (i : Nat) (si : List Int × Nat), v131 = .int .i64 i ∧ i ≤ row.length ∧ Aside0 (kq + i = row.length) ∧ Aside0 (seqL codes own (row.drop i) si = some s18) ∧ Aside0 (PenAt w w' g si) ∧ Aside0 (Below w.heap.size w w') ∧ Aside0 (KeepP w17 w'))
    case atStart => exact ⟨0, _, rfl, Nat.zero_le _, ⟨by omega⟩, H18, HP17, HB17, ⟨KeepP.refl _⟩⟩
    case round =>
     clear H18 HP17 HB17
     obtain ⟨i, si, rfl, hi, HG, HL, HP, HB, HK⟩ := hrel
     by_cases hlt : i < row.length
     ·have h := HL.out
      obtain ⟨ad, ead, k0, k1, k2, k3⟩ := at_T76 (RS17.out wr HK.out) (i : Int) (by omega) (by omega)
      obtain ⟨t, ht⟩ : ∃ t, t = rd_T76 row (i : Int) := ⟨_, rfl⟩
      rw [← ht, Int.toNat_natCast] at k0
      rw [← ht, Int.toNat_natCast] at k1 k2 k3
      have hd : row.drop i = t :: row.drop (i + 1) := by
       rw [ht]
       unfold rd_T76
       rw [Int.toNat_natCast, List.getD_eq_getElem?_getD, List.getElem?_eq_getElem hlt]
       exact List.drop_eq_getElem_cons hlt
      rw [hd] at h
      simp only [seqL] at h
      obtain ⟨s5, h5, h⟩ := Option.bind_eq_some_iff.1 h
      obtain ⟨s6, h6, h⟩ := Option.bind_eq_some_iff.1 h
      have H5 := Aside0.mk h5
      have H6 := Aside0.mk h6
      have HL1 := Aside0.mk h
      clear h h5 h6 HL hd ht
      subst ead
      have hal : Below wr.heap.size wr (wr.alloc (.cells #[.int .i64 t.f0, .int .i64 t.f1, .int .i64 t.f2, .int .i64 t.f3] 76)) := (Below.refl _ _).alloc (Nat.le_refl _) _
      have HAL := Aside0.mk hal
      have BT := Aside0.mk (blk_new wr (.cells #[.int .i64 t.f0, .int .i64 t.f1, .int .i64 t.f2, .int .i64 t.f3] 76))
      clear hal
      go_wp2_with fail
      have hk0 := HK.out.trans (KeepP.of_below HAL.out)
      refine (pen_code g A17 A10 c17 c10 codes own t.f0 si s5 w _ (HP.out.below HAL.out) (HB.out.alloc HB.out.size _) (RC17.out.keep hk0).now hc17 (RO17.out.keep hk0).now hc10 H5.out).mono ?_
      rintro e w5 ⟨rfl, hP5, hB5, hK5⟩
      have HP5 := Aside0.mk hP5
      have HB5 := Aside0.mk hB5
      have HK5 := Aside0.mk (hk0.trans hK5)
      have BT5 := Aside0.mk (hK5.2 _ _ _ BT.out (by decide) (by decide))
      clear hP5 hB5 hK5 HP HB HK hk0 BT HAL H5
      have hcz1 : w5.cell? ⟨wr.heap.size, 1, none⟩ = some (.int .i64 t.f1) := (blk_cell BT5.out 1).trans rfl
      have hcz2 : w5.cell? ⟨wr.heap.size, 2, none⟩ = some (.int .i64 t.f2) := (blk_cell BT5.out 2).trans rfl
      go_upto_region 34 with fail
      go_region_with (go_at_call 60; refine (pen_more g t.f1 t.f2 s5 s6 w w5.drew (HP5.out.below (Below.refl _ _).drew) HB5.out.drew H6.out).mono ?_; rintro e w6 ⟨rfl, hP6, hB6, hK6⟩; have HP6 := Aside0.mk hP6; have HB6 := Aside0.mk hB6; have HK6 := Aside0.mk ((HK5.out.below (Below.refl _ w5).drew).trans hK6); clear hP6 hB6 hK6)
      all_goals
       clear HP5 HB5 HK5 BT5 hcz1 hcz2 H6
       go_wp2_with fail
       go_roundg (gk - 1)
       case measure => have := HG.out; omega
       case rel => exact ⟨i + 1, s6, by go_num, by omega, ⟨by have := HG.out; omega⟩, HL1, HP6, HB6, HK6⟩
     obtain rfl : i = row.length := by omega
     have h := HL.out
     rw [List.drop_length] at h
     simp only [seqL] at h
     injection h with h
     subst h
     go_wp2_with fail
     refine (pen_body g A0 A5 A6 c0 c5 c6 l lits dists _ sr w wr HP.out HB.out (ReadsT.keep HR.out (KeepP.of_below HB.out)) hc0 hl (RL17.out.keep HK.out) hc5 (RD17.out.keep HK.out) hc6 H19.out).mono ?_
     rintro e w19 ⟨rfl, hP19, hB19, _⟩
     go_wp2_with fail
     go_ret
     exact ⟨g, rfl, hP19, hB19⟩

/-! ### shrink_Shrink: function 12 (by hand) -/
/-- The block of the fewest bits, of two: the first one, if they have as many. -/
def pick2 (p k : List Int × Nat) : List Int × Nat := if k.2 < p.2 then k else p
def shrink_Shrink.f (l0 : List Int) : Option (List Int × Int) := (match_Tokens.f l0).bind fun t => if t.2 = 0 then (if t.1.length ≤ 1000000 ∧ l0.length ≤ 1000000 then (plainS l0).bind fun p => (knownS t.1).bind fun k => (madeS t.1).bind fun m => some ((pick2 (pick2 p k) m).1, 0) else none) else some ([], t.2)
theorem PenAt.lower {w w1 W : World} {g : Nat} {s : List Int × Nat} (h : PenAt w1 W g s) (hs : w.heap.size ≤ w1.heap.size) : PenAt w W g s := by
 obtain ⟨v, h1, h2, h3⟩ := h
 exact ⟨v, h1, Nat.le_trans hs h2, Kd.R_lower h3 hs⟩
set_option maxHeartbeats 1000000 in
set_option maxRecDepth 100000 in
theorem shrink_Shrink.calls (A0 : Option Addr) (c0 : Nat) (l0 : List Int) (r1 : List Int) (r2 : Int) (w : World) (hr0 : Kd.C (Kd.int .u8) w A0 l0.length l0) (hc0 : l0.length ≤ c0) (h : shrink_Shrink.f l0 = some (r1, r2)) :
  Calls Try.prog 12 #[.slice A0 l0.length c0] w fun e w' => ∃ v0_ : Value, e = .returned (.tuple #[v0_, .int .i64 r2]) ∧ Kd.R (Kd.int .u8) 5 w' w.heap.size (fun _ => True) v0_ r1 ∧ Below w.heap.size w w' := by
 unfold shrink_Shrink.f at h
 obtain ⟨⟨t, e0⟩, h1, h⟩ := Option.bind_eq_some_iff.1 h
 simp only at h
 have H1 := Aside0.mk h1
 have H := Aside0.mk h
 have HR := Aside0.mk hr0
 clear h1 h hr0
 go_enter Try.func12, Try.ntmps12
 go_wp2_with fail
 refine (match_Tokens.calls A0 c0 l0 t e0 w HR.out hc0 H1.out).mono ?_
 rintro e w1 ⟨v1, rfl, ho, hb⟩
 obtain ⟨A1, c1, e1⟩ := Kd.R_slice ho
 subst e1
 obtain ⟨r1, _, hc1⟩ := readsT_own ho
 have HR1 := Aside0.mk r1
 have HB1 := Aside0.mk hb
 have h := H.out
 clear ho r1 hb H
 by_cases h0 : e0 = 0
 rotate_left
 ·have d0 : (e0 != 0) = true := bne_iff_ne.2 h0
  rw [if_neg h0] at h
  injection h with h
  injection h with h1 h2
  subst h1 h2
  go_wp2_with fail
  go_ret2
  exact ⟨_, rfl, Kd.R_nil _ _ _ _ _, HB1.out⟩
 have d0 : (e0 != 0) = false := by rw [h0]; rfl
 rw [if_pos h0] at h
 split at h
 rotate_left
 ·cases h
 rename_i hl
 obtain ⟨p, hp, h⟩ := Option.bind_eq_some_iff.1 h
 obtain ⟨k, hk, h⟩ := Option.bind_eq_some_iff.1 h
 obtain ⟨m, hm, h⟩ := Option.bind_eq_some_iff.1 h
 injection h with h
 injection h with h1 h2
 have HP := Aside0.mk hp
 have HK := Aside0.mk hk
 have HM := Aside0.mk hm
 have HE1 := Aside0.mk h1
 have HE2 := Aside0.mk h2
 clear hp hk hm h1 h2
 go_wp2_with fail
 refine (shr_plain A0 c0 l0 p w1 (Kd.C_below HR.out HB1.out) hc0 hl.2 HP.out).mono ?_
 rintro e w2 ⟨g1, rfl, hP1, hB2⟩
 have P1 := Aside0.mk (hP1.lower HB1.out.size)
 have HB2 := Aside0.mk (below_then HB1.out HB1.out.size hB2)
 have HR2 := Aside0.mk (HR1.out.keep (KeepP.of_below hB2))
 clear hP1 hB2 HR1 HB1 HP
 go_wp2_with fail
 refine (shr_known A1 c1 t k w2 HR2.out hc1 hl.1 HK.out).mono ?_
 rintro e w3 ⟨g2, rfl, hP2, hB3⟩
 have P2 := Aside0.mk (hP2.lower HB2.out.size)
 have P1b := Aside0.mk (P1.out.below hB3)
 have HB3 := Aside0.mk (below_then HB2.out HB2.out.size hB3)
 have HR3 := Aside0.mk (HR2.out.keep (KeepP.of_below hB3))
 clear hP2 hB3 HR2 HB2 HK P1
 go_wp2_with fail
 refine (shr_made A1 c1 t m w3 HR3.out hc1 hl.1 HM.out).mono ?_
 rintro e w4 ⟨g3, rfl, hP3, hB4⟩
 have P3 := Aside0.mk (hP3.lower HB3.out.size)
 have P2b := Aside0.mk (P2.out.below hB4)
 have P1c := Aside0.mk (P1b.out.below hB4)
 have HB4 := Aside0.mk (below_then HB3.out HB3.out.size hB4)
 clear hP3 hB4 HR3 HB3 HM P2 P1b hl
 go_wp2_with fail
 have hal : Below w4.heap.size w4 (w4.alloc (.cells #[.pointer (some ⟨g2, 0, none⟩), .pointer (some ⟨g3, 0, none⟩)] 56)) := (Below.refl _ _).alloc (Nat.le_refl _) _
 have BL := Aside0.mk (blk_new w4 (.cells #[.pointer (some ⟨g2, 0, none⟩), .pointer (some ⟨g3, 0, none⟩)] 56))
 have Q1 := Aside0.mk (P1c.out.below hal)
 have Q2 := Aside0.mk (P2b.out.below hal)
 have Q3 := Aside0.mk (P3.out.below hal)
 have HB5 := Aside0.mk (below_then HB4.out HB4.out.size hal)
 clear hal P1c P2b P3 HB4
 generalize w4.alloc (.cells #[.pointer (some ⟨g2, 0, none⟩), .pointer (some ⟨g3, 0, none⟩)] 56) = w5 at BL Q1 Q2 Q3 HB5 ⊢
 generalize w4.heap.size = gl at BL ⊢
 go_loopg [6, 25] 2 (fun kq v6 v25 w' => ∃ (i : Nat) (gi : Nat) (si : List Int × Nat), v25 = .int .i64 i ∧ v6 = .pointer (some ⟨gi, 0, none⟩) ∧ i ≤ 2 ∧ Aside0 (kq + i = 2) ∧ Aside0 ((i = 0 → si = p) ∧ (i = 1 → si = pick2 p k) ∧ (i = 2 → si = pick2 (pick2 p k) m)) ∧ Aside0 (PenAt w w5 gi si) ∧ Aside0 (Below w5.heap.size w5 w'))
 case atStart => exact ⟨0, g1, p, rfl, rfl, by omega, ⟨rfl⟩, ⟨fun _ => rfl, fun h => by omega, fun h => by omega⟩, Q1, ⟨Below.refl _ _⟩⟩
 case round =>
  obtain ⟨i, gi, si, rfl, rfl, hi, HG, HS, HP, HB⟩ := hrel
  have h3 : i = 0 ∨ i = 1 ∨ i = 2 := by omega
  rcases h3 with rfl | rfl | rfl
  ·have hP := HP.out.below HB.out
   obtain ⟨_, _, hgi, _, _⟩ := hP.cell
   obtain ⟨_, _, hgk, _, _⟩ := (Q2.out.below HB.out).cell
   have hci : wr.cell? ⟨gi, 1, none⟩ = some (.int .i64 (si.2 : Int)) := (blk_cell hgi 1).trans rfl
   have hck : wr.cell? ⟨g2, 1, none⟩ = some (.int .i64 (k.2 : Int)) := (blk_cell hgk 1).trans rfl
   have hbl := (HB.out.block gl (heap_ltP BL.out)).trans BL.out
   have hc0 : wr.cell? ⟨gl, 0, none⟩ = some (.pointer (some ⟨g2, 0, none⟩)) := (blk_cell hbl 0).trans rfl
   have hc1 : wr.cell? ((⟨gl, 0, none⟩ : Addr).add 0) = some (.pointer (some ⟨g2, 0, none⟩)) := hc0
   clear hP hgi hgk hbl
   by_cases hlt : k.2 < si.2
   ·have d1 : decide (k.2 < si.2) = true := decide_eq_true hlt
    have HLT := Aside0.mk hlt
    clear hlt
    go_upto_region 8 with fail
    refine start_ (n := 13) (S := fun w' => w'.cell? ⟨g2, 1, none⟩ = some (.int .i64 (k.2 : Int)) ∧ w'.cell? ⟨gi, 1, none⟩ = some (.int .i64 (si.2 : Int))) (ds := []) #[false, false, false, false, false, false, false, false, false, false, false, false, false] (by kernel_rfl) rfl rfl ⟨hck, hci⟩ (fun hHeld => ?_)
    refine pure_ (i := 0) (N := some 29) (v := ?_) (a' := ?_) #[true, false, false, false, false, false, false, false, false, false, false, false, false] rfl rfl (by kernel_rfl) (fun _ _ _ h => h) (Or.inl ⟨by rfl, ?_⟩) ?_ ?_; rotate_left; (intro w'; go_simp; with_reducible rfl); rotate_left; (simp only [Act.put, setIfInBounds_toArray, set_cons_zero, set_cons_succ, i64_w, i32_w]; rfl)
    refine pure_ (i := 1) (N := some 30) (v := ?_) (a' := ?_) #[true, true, false, false, false, false, false, false, false, false, false, false, false] rfl rfl (by kernel_rfl) (fun _ _ _ h => h) (Or.inl ⟨by rfl, ?_⟩) ?_ ?_; rotate_left; (intro w'; go_simp; with_reducible rfl); rotate_left; (simp only [Act.put, setIfInBounds_toArray, set_cons_zero, set_cons_succ, i64_w, i32_w]; rfl)
    refine pure_ (i := 2) (N := some 31) (v := ?_) (a' := ?_) #[true, true, true, false, false, false, false, false, false, false, false, false, false] rfl rfl (by kernel_rfl) (fun _ _ _ h => h) (Or.inl ⟨by rfl, ?_⟩) ?_ ?_; rotate_left; (intro w'; go_simp; with_reducible rfl); rotate_left; (simp only [Act.put, setIfInBounds_toArray, set_cons_zero, set_cons_succ, i64_w, i32_w]; rfl)
    refine pure_ (i := 3) (N := some 32) (v := ?_) (a' := ?_) #[true, true, true, true, false, false, false, false, false, false, false, false, false] rfl rfl (by kernel_rfl) (fun _ _ _ h => h) (Or.inl ⟨by rfl, ?_⟩) ?_ ?_; rotate_left; (intro w'; go_simp; with_reducible rfl); rotate_left; (simp only [Act.put, setIfInBounds_toArray, set_cons_zero, set_cons_succ, i64_w, i32_w]; rfl)
    refine pure_ (i := 4) (N := some 33) (v := ?_) (a' := ?_) #[true, true, true, true, true, false, false, false, false, false, false, false, false] rfl rfl (by kernel_rfl) (fun _ _ _ h => h) (Or.inl ⟨by rfl, ?_⟩) ?_ ?_; rotate_left; (intro w'; go_simp; with_reducible rfl); rotate_left; (simp only [Act.put, setIfInBounds_toArray, set_cons_zero, set_cons_succ, i64_w, i32_w]; rfl)
    refine pure_ (i := 6) (N := some 35) (v := ?_) (a' := ?_) #[true, true, true, true, true, false, true, false, false, false, false, false, false] rfl rfl (by kernel_rfl) (fun _ _ _ h => h) (Or.inl ⟨by rfl, ?_⟩) ?_ ?_; rotate_left; (intro w'; go_simp; with_reducible rfl); rotate_left; (simp only [Act.put, setIfInBounds_toArray, set_cons_zero, set_cons_succ, i64_w, i32_w]; rfl)
    refine pure_ (i := 7) (N := some 36) (v := ?_) (a' := ?_) #[true, true, true, true, true, false, true, true, false, false, false, false, false] rfl rfl (by kernel_rfl) (fun _ _ _ h => h) (Or.inl ⟨by rfl, ?_⟩) ?_ ?_; rotate_left; (intro w'; go_simp; with_reducible rfl); rotate_left; (simp only [Act.put, setIfInBounds_toArray, set_cons_zero, set_cons_succ, i64_w, i32_w]; rfl)
    refine pure_ (i := 8) (N := some 37) (v := ?_) (a' := ?_) #[true, true, true, true, true, false, true, true, true, false, false, false, false] rfl rfl (by kernel_rfl) (fun _ _ _ h => h) (Or.inl ⟨by rfl, ?_⟩) ?_ ?_; rotate_left; (intro w'; go_simp; with_reducible rfl); rotate_left; (simp only [Act.put, setIfInBounds_toArray, set_cons_zero, set_cons_succ, i64_w, i32_w]; rfl)
    refine pure_ (i := 9) (N := some 38) (v := ?_) (a' := ?_) #[true, true, true, true, true, false, true, true, true, true, false, false, false] rfl rfl (by kernel_rfl) (fun _ _ _ h => h) (Or.inl ⟨by rfl, ?_⟩) ?_ ?_; rotate_left; (intro w'; go_simp; with_reducible rfl); rotate_left; (simp only [Act.put, setIfInBounds_toArray, set_cons_zero, set_cons_succ, i64_w, i32_w]; rfl)
    refine pure_ (i := 10) (N := some 39) (v := ?_) (a' := ?_) #[true, true, true, true, true, false, true, true, true, true, true, false, false] rfl rfl (by kernel_rfl) (fun _ _ _ h => h) (Or.inl ⟨by rfl, ?_⟩) ?_ ?_; rotate_left; (intro w'; go_simp; with_reducible rfl); rotate_left; (simp only [Act.put, setIfInBounds_toArray, set_cons_zero, set_cons_succ, i64_w, i32_w]; rfl)
    refine take_ (i := 5) (N := some 34) (v := ?_) (a' := ?_) #[true, true, true, true, true, true, true, true, true, true, true, false, false] rfl rfl (by kernel_rfl) (fun _ _ _ h => h) (Or.inl ⟨by rfl, ?_⟩) hHeld ?_ ?_; rotate_left; (rintro w' ⟨s0, s1⟩; go_simp; with_reducible rfl); rotate_left; (simp only [Act.put, setIfInBounds_toArray, set_cons_zero, set_cons_succ, i64_w, i32_w]; rfl)
    refine take_ (i := 11) (N := some 40) (v := ?_) (a' := ?_) #[true, true, true, true, true, true, true, true, true, true, true, true, false] rfl rfl (by kernel_rfl) (fun _ _ _ h => h) (Or.inl ⟨by rfl, ?_⟩) hHeld ?_ ?_; rotate_left; (rintro w' ⟨s0, s1⟩; go_simp; with_reducible rfl); rotate_left; (simp only [Act.put, setIfInBounds_toArray, set_cons_zero, set_cons_succ, i64_w, i32_w]; rfl)
    refine pure_ (i := 12) (N := some 41) (v := ?_) (a' := ?_) #[true, true, true, true, true, true, true, true, true, true, true, true, true] rfl rfl (by kernel_rfl) (fun _ _ _ h => h) (Or.inl ⟨by rfl, ?_⟩) ?_ ?_; rotate_left; (intro w'; go_simp; with_reducible rfl); rotate_left; (simp only [Act.put, setIfInBounds_toArray, set_cons_zero, set_cons_succ, i64_w, i32_w]; rfl)
    refine done_ (by kernel_rfl) ?_
    go_wp2_with fail
    go_roundg (gk - 1)
    case measure => have := HG.out; omega
    case rel => exact ⟨1, g2, k, rfl, rfl, by omega, ⟨by have := HG.out; omega⟩, ⟨fun h => by omega, fun _ => by have := HS.out.1 (by decide); subst this; unfold pick2; rw [if_pos HLT.out], fun h => by omega⟩, Q2, ⟨HB.out.drew⟩⟩
   ·have d1 : decide (k.2 < si.2) = false := decide_eq_false hlt
    have HLT := Aside0.mk hlt
    clear hlt
    go_upto_region 8 with fail
    refine start_ (n := 13) (S := fun w' => w'.cell? ⟨g2, 1, none⟩ = some (.int .i64 (k.2 : Int)) ∧ w'.cell? ⟨gi, 1, none⟩ = some (.int .i64 (si.2 : Int))) (ds := []) #[false, false, false, false, false, false, false, false, false, false, false, false, false] (by kernel_rfl) rfl rfl ⟨hck, hci⟩ (fun hHeld => ?_)
    refine pure_ (i := 0) (N := some 29) (v := ?_) (a' := ?_) #[true, false, false, false, false, false, false, false, false, false, false, false, false] rfl rfl (by kernel_rfl) (fun _ _ _ h => h) (Or.inl ⟨by rfl, ?_⟩) ?_ ?_; rotate_left; (intro w'; go_simp; with_reducible rfl); rotate_left; (simp only [Act.put, setIfInBounds_toArray, set_cons_zero, set_cons_succ, i64_w, i32_w]; rfl)
    refine pure_ (i := 1) (N := some 30) (v := ?_) (a' := ?_) #[true, true, false, false, false, false, false, false, false, false, false, false, false] rfl rfl (by kernel_rfl) (fun _ _ _ h => h) (Or.inl ⟨by rfl, ?_⟩) ?_ ?_; rotate_left; (intro w'; go_simp; with_reducible rfl); rotate_left; (simp only [Act.put, setIfInBounds_toArray, set_cons_zero, set_cons_succ, i64_w, i32_w]; rfl)
    refine pure_ (i := 2) (N := some 31) (v := ?_) (a' := ?_) #[true, true, true, false, false, false, false, false, false, false, false, false, false] rfl rfl (by kernel_rfl) (fun _ _ _ h => h) (Or.inl ⟨by rfl, ?_⟩) ?_ ?_; rotate_left; (intro w'; go_simp; with_reducible rfl); rotate_left; (simp only [Act.put, setIfInBounds_toArray, set_cons_zero, set_cons_succ, i64_w, i32_w]; rfl)
    refine pure_ (i := 3) (N := some 32) (v := ?_) (a' := ?_) #[true, true, true, true, false, false, false, false, false, false, false, false, false] rfl rfl (by kernel_rfl) (fun _ _ _ h => h) (Or.inl ⟨by rfl, ?_⟩) ?_ ?_; rotate_left; (intro w'; go_simp; with_reducible rfl); rotate_left; (simp only [Act.put, setIfInBounds_toArray, set_cons_zero, set_cons_succ, i64_w, i32_w]; rfl)
    refine pure_ (i := 4) (N := some 33) (v := ?_) (a' := ?_) #[true, true, true, true, true, false, false, false, false, false, false, false, false] rfl rfl (by kernel_rfl) (fun _ _ _ h => h) (Or.inl ⟨by rfl, ?_⟩) ?_ ?_; rotate_left; (intro w'; go_simp; with_reducible rfl); rotate_left; (simp only [Act.put, setIfInBounds_toArray, set_cons_zero, set_cons_succ, i64_w, i32_w]; rfl)
    refine pure_ (i := 6) (N := some 35) (v := ?_) (a' := ?_) #[true, true, true, true, true, false, true, false, false, false, false, false, false] rfl rfl (by kernel_rfl) (fun _ _ _ h => h) (Or.inl ⟨by rfl, ?_⟩) ?_ ?_; rotate_left; (intro w'; go_simp; with_reducible rfl); rotate_left; (simp only [Act.put, setIfInBounds_toArray, set_cons_zero, set_cons_succ, i64_w, i32_w]; rfl)
    refine pure_ (i := 7) (N := some 36) (v := ?_) (a' := ?_) #[true, true, true, true, true, false, true, true, false, false, false, false, false] rfl rfl (by kernel_rfl) (fun _ _ _ h => h) (Or.inl ⟨by rfl, ?_⟩) ?_ ?_; rotate_left; (intro w'; go_simp; with_reducible rfl); rotate_left; (simp only [Act.put, setIfInBounds_toArray, set_cons_zero, set_cons_succ, i64_w, i32_w]; rfl)
    refine pure_ (i := 8) (N := some 37) (v := ?_) (a' := ?_) #[true, true, true, true, true, false, true, true, true, false, false, false, false] rfl rfl (by kernel_rfl) (fun _ _ _ h => h) (Or.inl ⟨by rfl, ?_⟩) ?_ ?_; rotate_left; (intro w'; go_simp; with_reducible rfl); rotate_left; (simp only [Act.put, setIfInBounds_toArray, set_cons_zero, set_cons_succ, i64_w, i32_w]; rfl)
    refine pure_ (i := 9) (N := some 38) (v := ?_) (a' := ?_) #[true, true, true, true, true, false, true, true, true, true, false, false, false] rfl rfl (by kernel_rfl) (fun _ _ _ h => h) (Or.inl ⟨by rfl, ?_⟩) ?_ ?_; rotate_left; (intro w'; go_simp; with_reducible rfl); rotate_left; (simp only [Act.put, setIfInBounds_toArray, set_cons_zero, set_cons_succ, i64_w, i32_w]; rfl)
    refine pure_ (i := 10) (N := some 39) (v := ?_) (a' := ?_) #[true, true, true, true, true, false, true, true, true, true, true, false, false] rfl rfl (by kernel_rfl) (fun _ _ _ h => h) (Or.inl ⟨by rfl, ?_⟩) ?_ ?_; rotate_left; (intro w'; go_simp; with_reducible rfl); rotate_left; (simp only [Act.put, setIfInBounds_toArray, set_cons_zero, set_cons_succ, i64_w, i32_w]; rfl)
    refine take_ (i := 5) (N := some 34) (v := ?_) (a' := ?_) #[true, true, true, true, true, true, true, true, true, true, true, false, false] rfl rfl (by kernel_rfl) (fun _ _ _ h => h) (Or.inl ⟨by rfl, ?_⟩) hHeld ?_ ?_; rotate_left; (rintro w' ⟨s0, s1⟩; go_simp; with_reducible rfl); rotate_left; (simp only [Act.put, setIfInBounds_toArray, set_cons_zero, set_cons_succ, i64_w, i32_w]; rfl)
    refine take_ (i := 11) (N := some 40) (v := ?_) (a' := ?_) #[true, true, true, true, true, true, true, true, true, true, true, true, false] rfl rfl (by kernel_rfl) (fun _ _ _ h => h) (Or.inl ⟨by rfl, ?_⟩) hHeld ?_ ?_; rotate_left; (rintro w' ⟨s0, s1⟩; go_simp; with_reducible rfl); rotate_left; (simp only [Act.put, setIfInBounds_toArray, set_cons_zero, set_cons_succ, i64_w, i32_w]; rfl)
    refine pure_ (i := 12) (N := some 41) (v := ?_) (a' := ?_) #[true, true, true, true, true, true, true, true, true, true, true, true, true] rfl rfl (by kernel_rfl) (fun _ _ _ h => h) (Or.inl ⟨by rfl, ?_⟩) ?_ ?_; rotate_left; (intro w'; go_simp; with_reducible rfl); rotate_left; (simp only [Act.put, setIfInBounds_toArray, set_cons_zero, set_cons_succ, i64_w, i32_w]; rfl)
    refine done_ (by kernel_rfl) ?_
    go_wp2_with fail
    go_roundg (gk - 1)
    case measure => have := HG.out; omega
    case rel => exact ⟨1, gi, si, rfl, rfl, by omega, ⟨by have := HG.out; omega⟩, ⟨fun h => by omega, fun _ => by have := HS.out.1 (by decide); subst this; unfold pick2; rw [if_neg HLT.out], fun h => by omega⟩, HP, ⟨HB.out.drew⟩⟩
  ·have hP := HP.out.below HB.out
   obtain ⟨_, _, hgi, _, _⟩ := hP.cell
   obtain ⟨_, _, hgk, _, _⟩ := (Q3.out.below HB.out).cell
   have hci : wr.cell? ⟨gi, 1, none⟩ = some (.int .i64 (si.2 : Int)) := (blk_cell hgi 1).trans rfl
   have hck : wr.cell? ⟨g3, 1, none⟩ = some (.int .i64 (m.2 : Int)) := (blk_cell hgk 1).trans rfl
   have hbl := (HB.out.block gl (heap_ltP BL.out)).trans BL.out
   have hc0 : wr.cell? ⟨gl, 1, none⟩ = some (.pointer (some ⟨g3, 0, none⟩)) := (blk_cell hbl 1).trans rfl
   have hc1 : wr.cell? ((⟨gl, 0, none⟩ : Addr).add 1) = some (.pointer (some ⟨g3, 0, none⟩)) := hc0
   clear hP hgi hgk hbl
   by_cases hlt : m.2 < si.2
   ·have d1 : decide (m.2 < si.2) = true := decide_eq_true hlt
    have HLT := Aside0.mk hlt
    clear hlt
    go_upto_region 8 with fail
    refine start_ (n := 13) (S := fun w' => w'.cell? ⟨g3, 1, none⟩ = some (.int .i64 (m.2 : Int)) ∧ w'.cell? ⟨gi, 1, none⟩ = some (.int .i64 (si.2 : Int))) (ds := []) #[false, false, false, false, false, false, false, false, false, false, false, false, false] (by kernel_rfl) rfl rfl ⟨hck, hci⟩ (fun hHeld => ?_)
    refine pure_ (i := 0) (N := some 29) (v := ?_) (a' := ?_) #[true, false, false, false, false, false, false, false, false, false, false, false, false] rfl rfl (by kernel_rfl) (fun _ _ _ h => h) (Or.inl ⟨by rfl, ?_⟩) ?_ ?_; rotate_left; (intro w'; go_simp; with_reducible rfl); rotate_left; (simp only [Act.put, setIfInBounds_toArray, set_cons_zero, set_cons_succ, i64_w, i32_w]; rfl)
    refine pure_ (i := 1) (N := some 30) (v := ?_) (a' := ?_) #[true, true, false, false, false, false, false, false, false, false, false, false, false] rfl rfl (by kernel_rfl) (fun _ _ _ h => h) (Or.inl ⟨by rfl, ?_⟩) ?_ ?_; rotate_left; (intro w'; go_simp; with_reducible rfl); rotate_left; (simp only [Act.put, setIfInBounds_toArray, set_cons_zero, set_cons_succ, i64_w, i32_w]; rfl)
    refine pure_ (i := 2) (N := some 31) (v := ?_) (a' := ?_) #[true, true, true, false, false, false, false, false, false, false, false, false, false] rfl rfl (by kernel_rfl) (fun _ _ _ h => h) (Or.inl ⟨by rfl, ?_⟩) ?_ ?_; rotate_left; (intro w'; go_simp; with_reducible rfl); rotate_left; (simp only [Act.put, setIfInBounds_toArray, set_cons_zero, set_cons_succ, i64_w, i32_w]; rfl)
    refine pure_ (i := 3) (N := some 32) (v := ?_) (a' := ?_) #[true, true, true, true, false, false, false, false, false, false, false, false, false] rfl rfl (by kernel_rfl) (fun _ _ _ h => h) (Or.inl ⟨by rfl, ?_⟩) ?_ ?_; rotate_left; (intro w'; go_simp; with_reducible rfl); rotate_left; (simp only [Act.put, setIfInBounds_toArray, set_cons_zero, set_cons_succ, i64_w, i32_w]; rfl)
    refine pure_ (i := 4) (N := some 33) (v := ?_) (a' := ?_) #[true, true, true, true, true, false, false, false, false, false, false, false, false] rfl rfl (by kernel_rfl) (fun _ _ _ h => h) (Or.inl ⟨by rfl, ?_⟩) ?_ ?_; rotate_left; (intro w'; go_simp; with_reducible rfl); rotate_left; (simp only [Act.put, setIfInBounds_toArray, set_cons_zero, set_cons_succ, i64_w, i32_w]; rfl)
    refine pure_ (i := 6) (N := some 35) (v := ?_) (a' := ?_) #[true, true, true, true, true, false, true, false, false, false, false, false, false] rfl rfl (by kernel_rfl) (fun _ _ _ h => h) (Or.inl ⟨by rfl, ?_⟩) ?_ ?_; rotate_left; (intro w'; go_simp; with_reducible rfl); rotate_left; (simp only [Act.put, setIfInBounds_toArray, set_cons_zero, set_cons_succ, i64_w, i32_w]; rfl)
    refine pure_ (i := 7) (N := some 36) (v := ?_) (a' := ?_) #[true, true, true, true, true, false, true, true, false, false, false, false, false] rfl rfl (by kernel_rfl) (fun _ _ _ h => h) (Or.inl ⟨by rfl, ?_⟩) ?_ ?_; rotate_left; (intro w'; go_simp; with_reducible rfl); rotate_left; (simp only [Act.put, setIfInBounds_toArray, set_cons_zero, set_cons_succ, i64_w, i32_w]; rfl)
    refine pure_ (i := 8) (N := some 37) (v := ?_) (a' := ?_) #[true, true, true, true, true, false, true, true, true, false, false, false, false] rfl rfl (by kernel_rfl) (fun _ _ _ h => h) (Or.inl ⟨by rfl, ?_⟩) ?_ ?_; rotate_left; (intro w'; go_simp; with_reducible rfl); rotate_left; (simp only [Act.put, setIfInBounds_toArray, set_cons_zero, set_cons_succ, i64_w, i32_w]; rfl)
    refine pure_ (i := 9) (N := some 38) (v := ?_) (a' := ?_) #[true, true, true, true, true, false, true, true, true, true, false, false, false] rfl rfl (by kernel_rfl) (fun _ _ _ h => h) (Or.inl ⟨by rfl, ?_⟩) ?_ ?_; rotate_left; (intro w'; go_simp; with_reducible rfl); rotate_left; (simp only [Act.put, setIfInBounds_toArray, set_cons_zero, set_cons_succ, i64_w, i32_w]; rfl)
    refine pure_ (i := 10) (N := some 39) (v := ?_) (a' := ?_) #[true, true, true, true, true, false, true, true, true, true, true, false, false] rfl rfl (by kernel_rfl) (fun _ _ _ h => h) (Or.inl ⟨by rfl, ?_⟩) ?_ ?_; rotate_left; (intro w'; go_simp; with_reducible rfl); rotate_left; (simp only [Act.put, setIfInBounds_toArray, set_cons_zero, set_cons_succ, i64_w, i32_w]; rfl)
    refine take_ (i := 5) (N := some 34) (v := ?_) (a' := ?_) #[true, true, true, true, true, true, true, true, true, true, true, false, false] rfl rfl (by kernel_rfl) (fun _ _ _ h => h) (Or.inl ⟨by rfl, ?_⟩) hHeld ?_ ?_; rotate_left; (rintro w' ⟨s0, s1⟩; go_simp; with_reducible rfl); rotate_left; (simp only [Act.put, setIfInBounds_toArray, set_cons_zero, set_cons_succ, i64_w, i32_w]; rfl)
    refine take_ (i := 11) (N := some 40) (v := ?_) (a' := ?_) #[true, true, true, true, true, true, true, true, true, true, true, true, false] rfl rfl (by kernel_rfl) (fun _ _ _ h => h) (Or.inl ⟨by rfl, ?_⟩) hHeld ?_ ?_; rotate_left; (rintro w' ⟨s0, s1⟩; go_simp; with_reducible rfl); rotate_left; (simp only [Act.put, setIfInBounds_toArray, set_cons_zero, set_cons_succ, i64_w, i32_w]; rfl)
    refine pure_ (i := 12) (N := some 41) (v := ?_) (a' := ?_) #[true, true, true, true, true, true, true, true, true, true, true, true, true] rfl rfl (by kernel_rfl) (fun _ _ _ h => h) (Or.inl ⟨by rfl, ?_⟩) ?_ ?_; rotate_left; (intro w'; go_simp; with_reducible rfl); rotate_left; (simp only [Act.put, setIfInBounds_toArray, set_cons_zero, set_cons_succ, i64_w, i32_w]; rfl)
    refine done_ (by kernel_rfl) ?_
    go_wp2_with fail
    go_roundg (gk - 1)
    case measure => have := HG.out; omega
    case rel => exact ⟨2, g3, m, rfl, rfl, by omega, ⟨by have := HG.out; omega⟩, ⟨fun h => by omega, fun h => by omega, fun _ => by have := HS.out.2.1 (by decide); rw [← this]; unfold pick2; rw [if_pos HLT.out]⟩, Q3, ⟨HB.out.drew⟩⟩
   ·have d1 : decide (m.2 < si.2) = false := decide_eq_false hlt
    have HLT := Aside0.mk hlt
    clear hlt
    go_upto_region 8 with fail
    refine start_ (n := 13) (S := fun w' => w'.cell? ⟨g3, 1, none⟩ = some (.int .i64 (m.2 : Int)) ∧ w'.cell? ⟨gi, 1, none⟩ = some (.int .i64 (si.2 : Int))) (ds := []) #[false, false, false, false, false, false, false, false, false, false, false, false, false] (by kernel_rfl) rfl rfl ⟨hck, hci⟩ (fun hHeld => ?_)
    refine pure_ (i := 0) (N := some 29) (v := ?_) (a' := ?_) #[true, false, false, false, false, false, false, false, false, false, false, false, false] rfl rfl (by kernel_rfl) (fun _ _ _ h => h) (Or.inl ⟨by rfl, ?_⟩) ?_ ?_; rotate_left; (intro w'; go_simp; with_reducible rfl); rotate_left; (simp only [Act.put, setIfInBounds_toArray, set_cons_zero, set_cons_succ, i64_w, i32_w]; rfl)
    refine pure_ (i := 1) (N := some 30) (v := ?_) (a' := ?_) #[true, true, false, false, false, false, false, false, false, false, false, false, false] rfl rfl (by kernel_rfl) (fun _ _ _ h => h) (Or.inl ⟨by rfl, ?_⟩) ?_ ?_; rotate_left; (intro w'; go_simp; with_reducible rfl); rotate_left; (simp only [Act.put, setIfInBounds_toArray, set_cons_zero, set_cons_succ, i64_w, i32_w]; rfl)
    refine pure_ (i := 2) (N := some 31) (v := ?_) (a' := ?_) #[true, true, true, false, false, false, false, false, false, false, false, false, false] rfl rfl (by kernel_rfl) (fun _ _ _ h => h) (Or.inl ⟨by rfl, ?_⟩) ?_ ?_; rotate_left; (intro w'; go_simp; with_reducible rfl); rotate_left; (simp only [Act.put, setIfInBounds_toArray, set_cons_zero, set_cons_succ, i64_w, i32_w]; rfl)
    refine pure_ (i := 3) (N := some 32) (v := ?_) (a' := ?_) #[true, true, true, true, false, false, false, false, false, false, false, false, false] rfl rfl (by kernel_rfl) (fun _ _ _ h => h) (Or.inl ⟨by rfl, ?_⟩) ?_ ?_; rotate_left; (intro w'; go_simp; with_reducible rfl); rotate_left; (simp only [Act.put, setIfInBounds_toArray, set_cons_zero, set_cons_succ, i64_w, i32_w]; rfl)
    refine pure_ (i := 4) (N := some 33) (v := ?_) (a' := ?_) #[true, true, true, true, true, false, false, false, false, false, false, false, false] rfl rfl (by kernel_rfl) (fun _ _ _ h => h) (Or.inl ⟨by rfl, ?_⟩) ?_ ?_; rotate_left; (intro w'; go_simp; with_reducible rfl); rotate_left; (simp only [Act.put, setIfInBounds_toArray, set_cons_zero, set_cons_succ, i64_w, i32_w]; rfl)
    refine pure_ (i := 6) (N := some 35) (v := ?_) (a' := ?_) #[true, true, true, true, true, false, true, false, false, false, false, false, false] rfl rfl (by kernel_rfl) (fun _ _ _ h => h) (Or.inl ⟨by rfl, ?_⟩) ?_ ?_; rotate_left; (intro w'; go_simp; with_reducible rfl); rotate_left; (simp only [Act.put, setIfInBounds_toArray, set_cons_zero, set_cons_succ, i64_w, i32_w]; rfl)
    refine pure_ (i := 7) (N := some 36) (v := ?_) (a' := ?_) #[true, true, true, true, true, false, true, true, false, false, false, false, false] rfl rfl (by kernel_rfl) (fun _ _ _ h => h) (Or.inl ⟨by rfl, ?_⟩) ?_ ?_; rotate_left; (intro w'; go_simp; with_reducible rfl); rotate_left; (simp only [Act.put, setIfInBounds_toArray, set_cons_zero, set_cons_succ, i64_w, i32_w]; rfl)
    refine pure_ (i := 8) (N := some 37) (v := ?_) (a' := ?_) #[true, true, true, true, true, false, true, true, true, false, false, false, false] rfl rfl (by kernel_rfl) (fun _ _ _ h => h) (Or.inl ⟨by rfl, ?_⟩) ?_ ?_; rotate_left; (intro w'; go_simp; with_reducible rfl); rotate_left; (simp only [Act.put, setIfInBounds_toArray, set_cons_zero, set_cons_succ, i64_w, i32_w]; rfl)
    refine pure_ (i := 9) (N := some 38) (v := ?_) (a' := ?_) #[true, true, true, true, true, false, true, true, true, true, false, false, false] rfl rfl (by kernel_rfl) (fun _ _ _ h => h) (Or.inl ⟨by rfl, ?_⟩) ?_ ?_; rotate_left; (intro w'; go_simp; with_reducible rfl); rotate_left; (simp only [Act.put, setIfInBounds_toArray, set_cons_zero, set_cons_succ, i64_w, i32_w]; rfl)
    refine pure_ (i := 10) (N := some 39) (v := ?_) (a' := ?_) #[true, true, true, true, true, false, true, true, true, true, true, false, false] rfl rfl (by kernel_rfl) (fun _ _ _ h => h) (Or.inl ⟨by rfl, ?_⟩) ?_ ?_; rotate_left; (intro w'; go_simp; with_reducible rfl); rotate_left; (simp only [Act.put, setIfInBounds_toArray, set_cons_zero, set_cons_succ, i64_w, i32_w]; rfl)
    refine take_ (i := 5) (N := some 34) (v := ?_) (a' := ?_) #[true, true, true, true, true, true, true, true, true, true, true, false, false] rfl rfl (by kernel_rfl) (fun _ _ _ h => h) (Or.inl ⟨by rfl, ?_⟩) hHeld ?_ ?_; rotate_left; (rintro w' ⟨s0, s1⟩; go_simp; with_reducible rfl); rotate_left; (simp only [Act.put, setIfInBounds_toArray, set_cons_zero, set_cons_succ, i64_w, i32_w]; rfl)
    refine take_ (i := 11) (N := some 40) (v := ?_) (a' := ?_) #[true, true, true, true, true, true, true, true, true, true, true, true, false] rfl rfl (by kernel_rfl) (fun _ _ _ h => h) (Or.inl ⟨by rfl, ?_⟩) hHeld ?_ ?_; rotate_left; (rintro w' ⟨s0, s1⟩; go_simp; with_reducible rfl); rotate_left; (simp only [Act.put, setIfInBounds_toArray, set_cons_zero, set_cons_succ, i64_w, i32_w]; rfl)
    refine pure_ (i := 12) (N := some 41) (v := ?_) (a' := ?_) #[true, true, true, true, true, true, true, true, true, true, true, true, true] rfl rfl (by kernel_rfl) (fun _ _ _ h => h) (Or.inl ⟨by rfl, ?_⟩) ?_ ?_; rotate_left; (intro w'; go_simp; with_reducible rfl); rotate_left; (simp only [Act.put, setIfInBounds_toArray, set_cons_zero, set_cons_succ, i64_w, i32_w]; rfl)
    refine done_ (by kernel_rfl) ?_
    go_wp2_with fail
    go_roundg (gk - 1)
    case measure => have := HG.out; omega
    case rel => exact ⟨2, gi, si, rfl, rfl, by omega, ⟨by have := HG.out; omega⟩, ⟨fun h => by omega, fun h => by omega, fun _ => by have := HS.out.2.1 (by decide); rw [← this]; unfold pick2; rw [if_neg HLT.out]⟩, HP, ⟨HB.out.drew⟩⟩
  ·have hsi := HS.out.2.2 (by decide)
   obtain ⟨v, hg, hge, ho⟩ := HP.out.below HB.out
   have hcz : wr.cell? ⟨gi, 0, none⟩ = some v := (blk_cell hg 0).trans rfl
   have HO := Aside0.mk ho
   have HB6 := Aside0.mk (below_then HB5.out HB5.out.size HB.out)
   clear ho hg
   go_wp2_with fail
   go_ret2
   have h1 := HE1.out
   have h2 := HE2.out
   subst h2
   rw [← hsi] at h1
   subst h1
   exact ⟨v, rfl, HO.out, HB6.out⟩

/-! ### shrink_Stored: function 13 (by hand) -/
def shrink_Stored.f (l0 : List Int) : Option (List Int × Int) := if (l0.length : Int) > 4096 then some ([], 2) else (plainS l0).bind fun s => some (s.1, 0)
set_option maxHeartbeats 4000000 in
set_option maxRecDepth 100000 in
theorem shrink_Stored.calls (A0 : Option Addr) (c0 : Nat) (l0 : List Int) (r1 : List Int) (r2 : Int) (w : World) (hr0 : Kd.C (Kd.int .u8) w A0 l0.length l0) (hc0 : l0.length ≤ c0) (h : shrink_Stored.f l0 = some (r1, r2)) :
  Calls Try.prog 13 #[.slice A0 l0.length c0] w fun e w' => ∃ v0_ : Value, e = .returned (.tuple #[v0_, .int .i64 r2]) ∧ Kd.R (Kd.int .u8) 5 w' w.heap.size (fun _ => True) v0_ r1 ∧ Below w.heap.size w w' := by
 unfold shrink_Stored.f at h
 by_cases hl : (l0.length : Int) > 4096
 ·rw [if_pos hl] at h
  injection h with h
  injection h with h1 h2
  subst h1 h2
  have d0 : decide (4096 < (l0.length : Int)) = true := decide_eq_true hl
  go_enter Try.func13, Try.ntmps13
  go_wp2_with fail
  go_ret2
  exact ⟨_, rfl, Kd.R_nil _ _ _ _ _, Below.refl _ _⟩
 ·rw [if_neg hl] at h
  obtain ⟨s, hs, h⟩ := Option.bind_eq_some_iff.1 h
  injection h with h
  injection h with h1 h2
  subst h1 h2
  have d0 : decide (4096 < (l0.length : Int)) = false := decide_eq_false hl
  have HS := Aside0.mk hs
  clear hs
  go_enter Try.func13, Try.ntmps13
  go_wp2_with fail
  refine (shr_plain A0 c0 l0 s w hr0 hc0 (by omega) HS.out).mono ?_
  rintro e w1 ⟨g, rfl, hP, hB⟩
  obtain ⟨v, hg, hge, ho⟩ := hP
  have hcz : w1.cell? ⟨g, 0, none⟩ = some v := (blk_cell hg 0).trans rfl
  have HO := Aside0.mk ho
  have HB := Aside0.mk hB
  clear ho hB hg
  go_wp2_with fail
  go_ret2
  exact ⟨v, rfl, HO.out, HB.out⟩

/-! ### shrink_Fixed: function 23 (by hand) -/
def shrink_Fixed.f (l0 : List Int) : Option (List Int × Int) := (match_Tokens.f l0).bind fun t => if t.2 = 0 then (if t.1.length ≤ 1000000 then (knownS t.1).bind fun s => some (s.1, 0) else none) else some ([], t.2)
set_option maxHeartbeats 4000000 in
set_option maxRecDepth 100000 in
theorem shrink_Fixed.calls (A0 : Option Addr) (c0 : Nat) (l0 : List Int) (r1 : List Int) (r2 : Int) (w : World) (hr0 : Kd.C (Kd.int .u8) w A0 l0.length l0) (hc0 : l0.length ≤ c0) (h : shrink_Fixed.f l0 = some (r1, r2)) :
  Calls Try.prog 23 #[.slice A0 l0.length c0] w fun e w' => ∃ v0_ : Value, e = .returned (.tuple #[v0_, .int .i64 r2]) ∧ Kd.R (Kd.int .u8) 5 w' w.heap.size (fun _ => True) v0_ r1 ∧ Below w.heap.size w w' := by
 unfold shrink_Fixed.f at h
 obtain ⟨⟨t, e0⟩, h1, h⟩ := Option.bind_eq_some_iff.1 h
 simp only at h
 have H1 := Aside0.mk h1
 have H := Aside0.mk h
 have HR := Aside0.mk hr0
 clear h1 h hr0
 go_enter Try.func23, Try.ntmps23
 go_wp2_with fail
 refine (match_Tokens.calls A0 c0 l0 t e0 w HR.out hc0 H1.out).mono ?_
 rintro e w1 ⟨v1, rfl, ho, hb⟩
 obtain ⟨A1, c1, e1⟩ := Kd.R_slice ho
 subst e1
 obtain ⟨r1, _, hc1⟩ := readsT_own ho
 have HR1 := Aside0.mk r1
 have HB1 := Aside0.mk hb
 have h := H.out
 clear ho r1 hb H
 by_cases h0 : e0 = 0
 rotate_left
 ·have d0 : (e0 != 0) = true := bne_iff_ne.2 h0
  rw [if_neg h0] at h
  injection h with h
  injection h with h1 h2
  subst h1 h2
  go_wp2_with fail
  go_ret2
  exact ⟨_, rfl, Kd.R_nil _ _ _ _ _, HB1.out⟩
 have d0 : (e0 != 0) = false := by rw [h0]; rfl
 rw [if_pos h0] at h
 split at h
 rotate_left
 ·cases h
 rename_i hl
 obtain ⟨s, hs, h⟩ := Option.bind_eq_some_iff.1 h
 injection h with h
 injection h with h1 h2
 subst h1 h2
 have HS := Aside0.mk hs
 clear hs
 go_wp2_with fail
 refine (shr_known A1 c1 t s w1 HR1.out hc1 hl HS.out).mono ?_
 rintro e w2 ⟨g, rfl, hP, hB⟩
 obtain ⟨v, hg, hge, ho⟩ := hP
 have hcz : w2.cell? ⟨g, 0, none⟩ = some v := (blk_cell hg 0).trans rfl
 have HO := Aside0.mk (Kd.R_lower ho HB1.out.size)
 have HB := Aside0.mk (below_then HB1.out HB1.out.size hB)
 clear ho hB hg
 go_wp2_with fail
 go_ret2
 exact ⟨v, rfl, HO.out, HB.out⟩

/-! ### wherryref01_in: function 53 -/
def wherryref01_in.f (a0 : Int) (a1 : Int) (a2 : Int) : Option (Bool) := if a0 ≥ a1 then (some (decide (a0 ≤ a2))) else (some false)
set_option maxHeartbeats 8000000 in
set_option maxRecDepth 100000 in
theorem wherryref01_in.calls (a0 : Int) (a1 : Int) (a2 : Int) (r : Bool) (w : World) (h : wherryref01_in.f a0 a1 a2 = some r) :
  Calls Try.prog 53 #[.int .i64 a0, .int .i64 a1, .int .i64 a2] w fun e w' => e = .returned (.bool r) ∧ Drawn0 w w' := by
 have H : (if a0 ≥ a1 then (some (decide (a0 ≤ a2))) else (some false)) = some r := h
 clear h
 by_cases c4 : a0 ≥ a1
 ·rw [if_pos c4] at H
  have c4b0 : decide (a1 ≤ a0) = true := decide_eq_true c4
  clear c4
  obtain rfl := Option.some.inj H
  go_enter Try.func53, Try.ntmps53
  go_wp2
  go_ret
  exact ⟨by first | rfl | (simp; done) | (simp [*]; done), by repeat (first | exact Drawn0.refl _ | apply Drawn0.step)⟩
 ·rw [if_neg c4] at H
  have c4b0 : decide (a1 ≤ a0) = false := decide_eq_false c4
  clear c4
  obtain rfl := Option.some.inj H
  go_enter Try.func53, Try.ntmps53
  go_wp2
  go_ret
  exact ⟨by first | rfl | (simp; done) | (simp [*]; done), by repeat (first | exact Drawn0.refl _ | apply Drawn0.step)⟩

/-! ### wherryref01_RightLengths: function 110 -/
end Go.Proofs.Ytlffpaploefljaa.P
