-- Written by a program of this session out of the translation. Lean checks it.
import Derived.Test.YtcjijhjdkgjgeaaPx0
import Derived.Test.YtcjijhjdkgjgeaaPx2
import Derived.Test.YtcjijhjdkgjgeaaPx4
import Derived.Test.YtcjijhjdkgjgeaaPx5
import Derived.Test.YtcjijhjdkgjgeaaPx6
namespace Go.Proofs.Ytcjijhjdkgjgeaa.P
open Go.RowKit Go.Proofs.YtcjijhjdkgjgeaaW.PrintWords Go.Proofs.YtcjijhjdkgjgeaaW.PrintLast Go.Proofs.YtcjijhjdkgjgeaaW.PrintMore
attribute [local go_sem] max2_int min2_int max_two min_two max_three min_three max_four min_four   -- for this text's walks alone
set_option linter.unusedVariables false
set_option linter.unusedSimpArgs false

-- PART
/-! ### grow_reader_stored: function 44 (by hand) -/
/-- So many bytes as they are. -/
def storedL (b : List Int) (most : Int) : Nat → RSt → Option RSt
  | 0, s => some s
  | n + 1, s => if s.er ≠ 0 then some s else (takeS b s 8).bind fun r => if r.2.out.length ≤ 1000000000 then storedL b most n (tellS most r.2 (r.1 % 256)) else none
def storedS (b : List Int) (most : Int) (s : RSt) : Option RSt :=
  (padS b s).bind fun s1 => (takeS b s1 16).bind fun r1 => (takeS b r1.2 16).bind fun r2 =>
    if (wantS r2.2 (Go.bits .xor .i64 r1.1 65535 == r2.1) 3).er ≠ 0 then some (wantS r2.2 (Go.bits .xor .i64 r1.1 65535 == r2.1) 3)
    else if 0 ≤ r1.1 ∧ r1.1 ≤ 1000000 then storedL b most r1.1.toNat (wantS r2.2 (Go.bits .xor .i64 r1.1 65535 == r2.1) 3) else none
set_option maxHeartbeats 8000000 in
set_option maxRecDepth 100000 in
theorem rdr_stored (g : Nat) (b : List Int) (most : Int) (s : RSt) (sr : RSt) (w0 w : World) (hR : Rdr w0 w g b most s) (hB : Below w0.heap.size w0 w) (h : storedS b most s = some sr) :
    Calls Try.prog 44 #[.pointer (some ⟨g, 0, none⟩)] w fun r w' => r = .returned (.tuple #[]) ∧ Rdr w0 w' g b most sr ∧ Below w0.heap.size w0 w' ∧ KeepT w w' := by
  unfold storedS at h
  obtain ⟨s1, ha, h⟩ := Option.bind_eq_some_iff.1 h
  obtain ⟨⟨v1, s2⟩, hb, h⟩ := Option.bind_eq_some_iff.1 h
  obtain ⟨⟨v2, s3⟩, hc, h⟩ := Option.bind_eq_some_iff.1 h
  have HA := Aside0.mk ha
  have HBb := Aside0.mk hb
  have HC := Aside0.mk hc
  have H := Aside0.mk h
  clear ha hb hc h
  go_enter Try.func44, Try.ntmps44
  go_wp2_with fail
  refine (rdr_pad g b most s s1 w0 w hR hB HA.out).mono ?_
  rintro e w1 ⟨rfl, hR1, hB1, hK1⟩
  have HR1 := Aside0.mk hR1
  have HB1 := Aside0.mk hB1
  have HK1 := Aside0.mk hK1
  clear hR1 hB1 hK1 hR hB
  go_wp2_with fail
  refine (rdr_take g b most s1 16 v1 s2 w0 w1 HR1.out HB1.out HBb.out).mono ?_
  rintro e w2 ⟨rfl, hR2, hB2, hK2⟩
  have HR2 := Aside0.mk hR2
  have HB2 := Aside0.mk hB2
  have HK2 := Aside0.mk (HK1.out.trans hK2)
  clear hR2 hB2 hK2 HR1 HB1 HK1
  go_wp2_with fail
  refine (rdr_take g b most s2 16 v2 s3 w0 w2 HR2.out HB2.out HC.out).mono ?_
  rintro e w3 ⟨rfl, hR3, hB3, hK3⟩
  have HR3 := Aside0.mk hR3
  have HB3 := Aside0.mk hB3
  have HK3 := Aside0.mk (HK2.out.trans hK3)
  clear hR3 hB3 hK3 HR2 HB2 HK2
  go_wp2_with fail
  refine (rdr_want g b most s3 (Go.bits .xor .i64 v1 65535 == v2) 3 w0 w3 HR3.out HB3.out).mono ?_
  rintro e w4 ⟨rfl, hR4, hB4, hK4⟩
  have HR4 := Aside0.mk hR4
  have HB4 := Aside0.mk hB4
  have HK4 := Aside0.mk (HK3.out.trans hK4)
  clear hR4 hB4 hK4 HR3 HB3 HK3 HA HBb HC
  generalize wantS s3 (Go.bits .xor .i64 v1 65535 == v2) 3 = s4 at H HR4 ⊢
  by_cases h0 : s4.er = 0
  · have d0 : (s4.er == 0) = true := beq_iff_eq.2 h0
    have h := H.out
    rw [if_neg (by rw [h0]; simp)] at h
    by_cases hv : 0 ≤ v1 ∧ v1 ≤ 1000000
    · rw [if_pos hv] at h
      obtain ⟨n, rfl⟩ : ∃ n : Nat, v1 = (n : Int) := ⟨v1.toNat, by omega⟩
      rw [Int.toNat_natCast] at h
      have hn : n ≤ 1000000 := by omega
      have HL := Aside0.mk h
      clear h H hv d0
      go_wp2_with fail
      go_loopg [2] n (fun kq v2 w' => ∃ (i : Nat) (si : RSt), v2 = .int .i64 i ∧ i ≤ n ∧ Aside0 (kq = i) ∧ Aside0 (storedL b most i si = some sr) ∧ Aside0 (Rdr w0 w' g b most si) ∧ Aside0 (Below w0.heap.size w0 w') ∧ Aside0 (KeepT w w'))
      case atStart => exact ⟨n, s4, rfl, Nat.le_refl _, ⟨rfl⟩, HL, HR4, HB4, HK4⟩
      case round =>
        clear HL HR4 HB4 HK4
        obtain ⟨i, si, rfl, hi, HG, HL, HR, HB, HK⟩ := hrel
        obtain ⟨A0, c0, A3, c3, hg, hge, hb, hc, ho⟩ := HR.out.cells
        have hcz5 : wr.cell? ⟨g, 5, none⟩ = some (.int .i64 si.er) := (blk_cell hg 5).trans rfl
        clear hg hb ho hc
        match i, hi, HG, HL with
        | 0, hi, HG, HL =>
          go_wp2_with fail
          go_end0
          have h := HL.out
          unfold storedL at h
          injection h with h
          subst h
          exact ⟨rfl, HR.out, HB.out, HK.out⟩
        | i + 1, hi, HG, HL =>
          by_cases he : si.er = 0
          · have d1 : (si.er == 0) = true := beq_iff_eq.2 he
            have h := HL.out
            unfold storedL at h
            rw [if_neg (by rw [he]; simp)] at h
            obtain ⟨⟨v3, s5⟩, ht, h⟩ := Option.bind_eq_some_iff.1 h
            by_cases hol : s5.out.length ≤ 1000000000
            rotate_left
            · rw [if_neg hol] at h; cases h
            rw [if_pos hol] at h
            have HT := Aside0.mk ht
            have HL2 := Aside0.mk h
            have HO5 := Aside0.mk hol
            clear h ht hol HL
            go_wp2_with fail
            refine (rdr_take g b most si 8 v3 s5 w0 wr HR.out HB.out HT.out).mono ?_
            rintro e w5 ⟨rfl, hR5, hB5, hK5⟩
            have HR5 := Aside0.mk hR5
            have HB5 := Aside0.mk hB5
            have HK5 := Aside0.mk (HK.out.trans hK5)
            clear hR5 hB5 hK5 HR HB HK hcz5
            go_wp2_with fail
            refine (rdr_tell g b most s5 (v3 % 256) w0 w5 HR5.out HB5.out HO5.out).mono ?_
            rintro e w6 ⟨rfl, hR6, hB6, hK6⟩
            have HR6 := Aside0.mk hR6
            have HB6 := Aside0.mk hB6
            have HK6 := Aside0.mk (HK5.out.trans hK6)
            clear hR6 hB6 hK6 HR5 HB5 HK5
            go_wp2_with fail
            go_roundg (gk - 1)
            case measure => have := HG.out; omega
            case rel => exact ⟨i, _, by go_num, by omega, ⟨by have := HG.out; omega⟩, HL2, HR6, HB6, HK6⟩
          · have d1 : (si.er == 0) = false := beq_eq_false_iff_ne.2 he
            go_wp2_with fail
            go_end0
            have h := HL.out
            unfold storedL at h
            rw [if_pos he] at h
            injection h with h
            subst h
            exact ⟨rfl, HR.out, HB.out, HK.out⟩
    · rw [if_neg hv] at h
      cases h
  · have d0 : (s4.er == 0) = false := beq_eq_false_iff_ne.2 h0
    have h := H.out
    rw [if_pos h0] at h
    injection h with h
    subst h
    go_wp2_with fail
    ((try simp only [Exit.inBlock, Exit.then]); refine bodyPost_ret (results_none rfl _ _ _) rfl ?_)
    exact ⟨rfl, HR4.out, HB4.out, HK4.out⟩

-- PART
end Go.Proofs.Ytcjijhjdkgjgeaa.P
