-- Written by a program of this session out of the translation. Lean checks it.
import Derived.Test.YtnfagiofoicgoaaPx0
import Derived.Test.YtnfagiofoicgoaaPx1
import Derived.Test.YtnfagiofoicgoaaPx2
import Derived.Test.YtnfagiofoicgoaaPx3
namespace Go.Proofs.Ytnfagiofoicgoaa.P
open Go.RowKit Go.Proofs.YtnfagiofoicgoaaW.PrintWords Go.Proofs.YtnfagiofoicgoaaW.PrintLast Go.Proofs.YtnfagiofoicgoaaW.PrintMore
attribute [local go_sem] max2_int min2_int max_two min_two max_three min_three max_four min_four   -- for this text's walks alone
set_option linter.unusedVariables false
set_option linter.unusedSimpArgs false

-- PART
/-! ### bits_Put: function 9 (by hand) -/
/-- What Put tells: the first error that applies; else the row with the number's bits behind it. -/
def bits_Put.f (l0_0 : List Int) (a0_1 a1 a2 : Int) : Option (List Int × Int × Int) :=
  (bits_Check.f 2 l0_0 a0_1).bind fun e => if e = 0 then ((bits_may.f a1 a2).bind fun m => if m = true then (if a2 > 40000 - a0_1 then some ([], 0, 2) else some (padd a1 a2.toNat 0 l0_0 a0_1.toNat, a0_1 + a2, 0)) else some ([], 0, 1)) else some ([], 0, e)
theorem check_right {B : List Int} {N : Int} (h : bits_Check.f 2 B N = some 0) : 0 ≤ N ∧ N ≤ 40000 ∧ (B.length : Int) = (N + 7) / 8 := by
  unfold bits_Check.f at h
  by_cases h0 : N < 0
  · rw [if_pos h0] at h; simp [bits_Check.j0] at h
  · by_cases h1 : N > 40000
    · rw [if_neg h0, if_pos h1] at h; simp [bits_Check.j0] at h
    · rw [if_neg h0, if_neg h1] at h
      refine ⟨by omega, by omega, ?_⟩
      by_cases h2 : (B.length : Int) = (wrap64 (Int.tdiv (wrap64 ((wrap64 (N + 8)) - 1)) 8))
      · rw [h2, Int.tdiv_eq_ediv_of_nonneg (by unfold wrap64; omega)]
        unfold wrap64; omega
      · rw [bne_iff_ne.2 h2] at h; simp [bits_Check.j0] at h
theorem may_right {v n : Int} (h : bits_may.f v n = some true) : 0 ≤ n ∧ n ≤ 24 ∧ 0 ≤ v := by
  unfold bits_may.f at h
  by_cases h0 : n ≥ 0
  · by_cases h1 : n ≤ 24
    · by_cases h2 : v ≥ 0
      · exact ⟨h0, h1, h2⟩
      · rw [if_pos h0, if_pos h1, if_neg h2] at h; simp at h
    · rw [if_pos h0, if_neg h1] at h; simp at h
  · rw [if_neg h0] at h; simp at h
set_option maxHeartbeats 8000000 in
set_option maxRecDepth 100000 in
theorem bits_Put.calls (A0_0 : Option Addr) (c0_0 : Nat) (l0_0 : List Int) (a0_1 : Int) (a1 : Int) (a2 : Int) (r1 : List Int) (r2 : Int) (r3 : Int) (w : World) (hr0_0 : Kd.C (Kd.int .u8) w A0_0 l0_0.length l0_0) (hc0_0 : l0_0.length ≤ c0_0) (h : bits_Put.f l0_0 a0_1 a1 a2 = some (r1, r2, r3)) :
    Calls Try.prog 9 #[.agg #[.slice A0_0 l0_0.length c0_0, .int .i64 a0_1], .int .i64 a1, .int .i64 a2] w fun e w' => ∃ v0_ : Value, e = .returned (.tuple #[.agg #[v0_, .int .i64 r2], .int .i64 r3]) ∧ Kd.R (Kd.int .u8) 5 w' w.heap.size (fun _ => True) v0_ r1 ∧ Below w.heap.size w w' := by
  unfold bits_Put.f at h
  have HR := Aside0.mk hr0_0
  have HC := Aside0.mk hc0_0
  clear hr0_0 hc0_0
  obtain ⟨e, he, h⟩ := Option.bind_eq_some_iff.1 h
  have HE := Aside0.mk he
  clear he
  have hu := Try.underlying25
  have HB := Aside0.mk (Below.refl w.heap.size w)
  go_enter Try.func9, Try.ntmps9
  go_wp2_with (first
    | ((with_reducible refine gate_dst (N := 3) rfl ?_); refine box_event ?hg (N := 3) ?hd (cs := #[.slice A0_0 l0_0.length c0_0, .int .i64 a0_1]) (t := 25) ?hr ?_; (case hd => rfl); (case hg => rfl); (case hr => first | (go_simp; done) | (go_simp; rfl)); intro gS hg w1 hbox hb; (have BS := Aside0.mk hbox); (have GS := Aside0.mk (show w.heap.size ≤ gS from by omega)); (have HB1 := Aside0.mk (below_step HB.out hb)); (have HR1 := Aside0.mk (Kd.C_below HR.out hb)); clear HB hb hbox hg)
    | ((with_reducible refine gate_dst (N := 6) rfl ?_); refine box_event ?hg (N := 6) ?hd (cs := #[.slice none 0 0, .int .i64 0]) (t := 25) ?hr ?_; (case hd => rfl); (case hg => rfl); (case hr => first | (go_simp; done) | (go_simp; rfl)); intro gR hg w2 hbox hb; (have BR := Aside0.mk hbox); (have GR := Aside0.mk (show w.heap.size ≤ gR from by rw [hg]; exact below_size HB1.out)); (have NE := Aside0.mk (show gS ≠ gR from by have := blk_lt BS.out; omega)); (have BS2 := Aside0.mk (blk_below BS.out hb)); (have HB2 := Aside0.mk (below_step HB1.out hb)); (have HR2 := Aside0.mk (Kd.C_below HR1.out hb)); clear HB1 HR1 BS hb hbox hg; (have BS := BS2); (have HB := HB2); (have HR3 := HR2); clear BS2 HB2 HR2; (have hcs0 : w2.cell? ⟨gS, 0, none⟩ = some (.slice A0_0 l0_0.length c0_0) := (blk_cell BS.out 0).trans rfl); (have hcs1 : w2.cell? ⟨gS, 1, none⟩ = some (.int .i64 a0_1) := (blk_cell BS.out 1).trans rfl)))
  refine (bits_Check.calls 2 _ _ l0_0 a0_1 e w2 HR3.out HC.out HE.out).mono ?_
  rintro e1 w3 ⟨rfl, hb⟩
  have BS3 := Aside0.mk (blk_below BS.out hb)
  have BR3 := Aside0.mk (blk_below BR.out hb)
  have HB3 := Aside0.mk (below_step HB.out hb)
  have HR4 := Aside0.mk (Kd.C_below HR3.out hb)
  clear hcs0 hcs1 BS BR HB HR3 hb HR
  have hcr0 : w3.cell? ⟨gR, 0, none⟩ = some (.slice none 0 0) := (blk_cell BR3.out 0).trans rfl
  have hcr1 : w3.cell? ⟨gR, 1, none⟩ = some (.int .i64 0) := (blk_cell BR3.out 1).trans rfl
  have hfr0 := blk_frozen BR3.out 0
  have hfr1 := blk_frozen BR3.out 1
  by_cases h0 : e = 0
  · subst h0
    rw [if_pos rfl] at h
    obtain ⟨m, hm, h⟩ := Option.bind_eq_some_iff.1 h
    have HM := Aside0.mk hm
    clear hm
    go_wp2_with fail
    refine (bits_may.calls a1 a2 m _ HM.out).mono ?_
    rintro e1 w4 ⟨rfl, hd⟩
    have hb := hd.below
    have BS := Aside0.mk (blk_below BS3.out hb)
    have BR := Aside0.mk (blk_below BR3.out hb)
    have HB := Aside0.mk (below_step HB3.out hb)
    have HR := Aside0.mk (Kd.C_below HR4.out hb)
    clear hcr0 hcr1 hfr0 hfr1 BS3 BR3 HB3 HR4 hb hd
    have hcr0 : w4.cell? ⟨gR, 0, none⟩ = some (.slice none 0 0) := (blk_cell BR.out 0).trans rfl
    have hcr1 : w4.cell? ⟨gR, 1, none⟩ = some (.int .i64 0) := (blk_cell BR.out 1).trans rfl
    have hfr0 := blk_frozen BR.out 0
    have hfr1 := blk_frozen BR.out 1
    cases m with
    | false =>
      rw [if_neg (by decide)] at h
      simp only [Option.some.injEq, Prod.mk.injEq] at h
      obtain ⟨rfl, rfl, rfl⟩ := h
      go_wp2_with fail
      refine bodyPost_ret (results_ct rfl _ _ gR 25 #[.slice none 0 0, .int .i64 0] (0, 0) _ rfl (by (with_reducible repeat (first | refine blk_drewN ?_ _ | refine blk_drew ?_ | refine blk_alloc ?_ _)); refine blk_put (cs := #[.slice none 0 0, .int .i64 0]) ?_ 1 _ rfl; (with_reducible repeat (first | refine blk_drewN ?_ _ | refine blk_drew ?_ | refine blk_alloc ?_ _)); refine blk_put (cs := #[.slice none 0 0, .int .i64 0]) ?_ 0 _ rfl; (with_reducible repeat (first | refine blk_drewN ?_ _ | refine blk_drew ?_ | refine blk_alloc ?_ _)); exact BR.out) Try.underlying25 rfl (by kernel_rfl)) rfl ?_
      exact ⟨_, rfl, Kd.R_nil _ _ _ _ _, by repeat (first | (with_reducible first | exact HB.out | apply below_alloc | apply pw_below_drewN | apply below_drew1 | refine below_set ?_ GR.out | refine below_set ?_ GS.out) | exact HB.out)⟩
    | true =>
      rw [if_pos rfl] at h
      have hcs0 : w4.cell? ⟨gS, 0, none⟩ = some (.slice A0_0 l0_0.length c0_0) := (blk_cell BS.out 0).trans rfl
      have hcs1 : w4.cell? ⟨gS, 1, none⟩ = some (.int .i64 a0_1) := (blk_cell BS.out 1).trans rfl
      obtain ⟨ck0, ck1, ck2⟩ := check_right HE.out
      obtain ⟨mr0, mr1, mr2⟩ := may_right HM.out
      obtain ⟨N, rfl⟩ := Int.eq_ofNat_of_zero_le ck0
      obtain ⟨n2, rfl⟩ := Int.eq_ofNat_of_zero_le mr0
      rw [Int.toNat_natCast, Int.toNat_natCast] at h
      by_cases hl : (n2 : Int) > 40000 - (N : Int)
      · rw [if_pos hl] at h
        simp only [Option.some.injEq, Prod.mk.injEq] at h
        obtain ⟨rfl, rfl, rfl⟩ := h
        go_wp2_with fail
        refine bodyPost_ret (results_ct rfl _ _ gR 25 #[.slice none 0 0, .int .i64 0] (0, 0) _ rfl (by (with_reducible repeat (first | refine blk_drewN ?_ _ | refine blk_drew ?_ | refine blk_alloc ?_ _)); refine blk_put (cs := #[.slice none 0 0, .int .i64 0]) ?_ 1 _ rfl; (with_reducible repeat (first | refine blk_drewN ?_ _ | refine blk_drew ?_ | refine blk_alloc ?_ _)); refine blk_put (cs := #[.slice none 0 0, .int .i64 0]) ?_ 0 _ rfl; (with_reducible repeat (first | refine blk_drewN ?_ _ | refine blk_drew ?_ | refine blk_alloc ?_ _)); exact BR.out) Try.underlying25 rfl (by kernel_rfl)) rfl ?_
        exact ⟨_, rfl, Kd.R_nil _ _ _ _ _, by repeat (first | (with_reducible first | exact HB.out | apply below_alloc | apply pw_below_drewN | apply below_drew1 | refine below_set ?_ GR.out | refine below_set ?_ GS.out) | exact HB.out)⟩
      · rw [if_neg hl] at h
        simp only [Option.some.injEq, Prod.mk.injEq] at h
        have HH := Aside0.mk h
        clear h
        have CK := Aside0.mk ck2
        clear ck2
        go_wp2_with fail
        have HF := Aside0.mk (show slices_Clone_byte_byte.f l0_0 = some l0_0 from by unfold slices_Clone_byte_byte.f; rw [if_pos (by have := CK.out; omega)])
        go_region_held3 (fun w' => w'.cell? ⟨gS, 0, none⟩ = some (.slice A0_0 l0_0.length c0_0) ∧ w'.cell? ⟨gS, 1, none⟩ = some (.int .i64 (N : Int))) (go_keep)
          (first | (go_at_call 26; refine (slices_Clone_byte_byte.calls _ _ l0_0 l0_0 w4.drew (Kd.C_drew HR.out) HC.out HF.out).mono ?_; rintro e1 w5 ⟨v5, rfl, ho, hb⟩; (obtain ⟨A5, c5, e5⟩ := Kd.R_slice ho); (subst e5); (have hb2 : Below w4.heap.size w4 w5 := (below_drew (Below.refl _ _)).trans hb); (have hcs0' : w5.cell? ⟨gS, 0, none⟩ = some (.slice A0_0 l0_0.length c0_0) := (blk_cell (blk_below BS.out hb2) 0).trans rfl); (have hcs1' : w5.cell? ⟨gS, 1, none⟩ = some (.int .i64 (N : Int)) := (blk_cell (blk_below BS.out hb2) 1).trans rfl); (have HO5 := Aside0.mk ho); (have HB5 := Aside0.mk hb2); clear hb hb2 ho))
        have HB6 : Aside0 (Below w.heap.size w (w5.alloc (.cells #[.slice A5 l0_0.length c5, .int .i64 (N : Int)] 51 (0, 0)))) := ⟨below_alloc (below_step HB.out HB5.out) _⟩
        have hs4 : w.heap.size ≤ w4.heap.size := below_size HB.out
        have hs5 : w4.heap.size ≤ w5.heap.size := HB5.out.size
        have HN6 : Aside0 ((w5.alloc (.cells #[.slice A5 l0_0.length c5, .int .i64 (N : Int)] 51 (0, 0))).heap[w5.heap.size]? = some (.cells #[.slice A5 l0_0.length c5, .int .i64 (N : Int)] 51 (0, 0))) := ⟨blk_new w5 _⟩
        have HO6 : Aside0 (Kd.R (Kd.int .u8) 5 (w5.alloc (.cells #[.slice A5 l0_0.length c5, .int .i64 (N : Int)] 51 (0, 0))) w.heap.size (fun k => w4.heap.size ≤ k) (.slice A5 l0_0.length c5) l0_0) := ⟨Kd.R_alloc (Kd.R_lower (Kd.R_mono (Kd.R_bound HO5.out) (fun k hk => hk.2.1)) hs4) _⟩
        have BR6 : Aside0 ((w5.alloc (.cells #[.slice A5 l0_0.length c5, .int .i64 (N : Int)] 51 (0, 0))).heap[gR]? = some (.cells #[.slice none 0 0, .int .i64 0] 25 (0, 0))) := ⟨blk_alloc (blk_below BR.out HB5.out) _⟩
        have hlt6 := blk_lt BR.out
        have hs6 : (w5.alloc (.cells #[.slice A5 l0_0.length c5, .int .i64 (N : Int)] 51 (0, 0))).heap.size = w5.heap.size + 1 := by simp
        have HS6 := Aside0.mk hs6
        clear hcr0 hcr1 hfr0 hfr1 hcs0 hcs1 hs6 HB BR BS HB5 HO5 HR hcs0' hcs1'
        go_wp2_with fail
        generalize (w5.alloc (.cells #[.slice A5 l0_0.length c5, .int .i64 (N : Int)] 51 (0, 0))) = w6 at HB6 HN6 HO6 BR6 HS6 ⊢
        refine (pen_add w5.heap.size (fun k => w4.heap.size ≤ k) _ l0_0 a1 N n2 w w6 HB6.out HN6.out (by omega) HO6.out (by omega) (by omega) (fun h8 hn => by have := CK.out; rw [hn] at this; simp at this; omega) (by have := CK.out; omega)).mono ?_
        rintro e1 w7 ⟨v7, rfl, hn7, ho7, hb7, hk7⟩
        obtain ⟨A7, c7, e7⟩ := Kd.R_slice ho7
        subst e7
        have BR := Aside0.mk ((hk7.2 gR (by have := HS6.out; omega) (by omega)).trans BR6.out)
        have HB := Aside0.mk hb7
        have HO7 := Aside0.mk ho7
        have NE7 : gR ≠ w5.heap.size := by omega
        have hcn0 : w7.cell? ⟨w5.heap.size, 0, none⟩ = some (.slice A7 (padd a1 n2 0 l0_0 N).length c7) := (blk_cell hn7 0).trans rfl
        have hcn1 : w7.cell? ⟨w5.heap.size, 1, none⟩ = some (.int .i64 ((N + n2 : Nat) : Int)) := (blk_cell hn7 1).trans rfl
        have hcr0 : w7.cell? ⟨gR, 0, none⟩ = some (.slice none 0 0) := (blk_cell BR.out 0).trans rfl
        have hcr1 : w7.cell? ⟨gR, 1, none⟩ = some (.int .i64 0) := (blk_cell BR.out 1).trans rfl
        have hfr0 := blk_frozen BR.out 0
        have hfr1 := blk_frozen BR.out 1
        clear ho7 hn7 hb7 hk7 HB6 HN6 HO6 BR6 HS6
        generalize w5.heap.size = g7 at *
        go_wp2_with fail
        refine bodyPost_ret (results_ct rfl _ _ gR 25 #[.slice A7 (padd a1 n2 0 l0_0 N).length c7, .int .i64 ((N : Int) + (n2 : Int))] (0, 0) _ rfl (by (with_reducible repeat (first | refine blk_drewN ?_ _ | refine blk_drew ?_ | refine blk_alloc ?_ _)); refine blk_put (cs := #[.slice A7 (padd a1 n2 0 l0_0 N).length c7, .int .i64 0]) ?_ 1 _ rfl; (with_reducible repeat (first | refine blk_drewN ?_ _ | refine blk_drew ?_ | refine blk_alloc ?_ _)); refine blk_put (cs := #[.slice none 0 0, .int .i64 0]) ?_ 0 _ rfl; (with_reducible repeat (first | refine blk_drewN ?_ _ | refine blk_drew ?_ | refine blk_alloc ?_ _)); exact BR.out) Try.underlying25 rfl (by kernel_rfl)) rfl ?_
        obtain ⟨rfl, rfl, rfl⟩ := HH.out
        exact ⟨_, rfl, Kd.R_mono (Kd.R_far (p := ⟨gR, 1, none⟩) (Kd.R_far (p := ⟨gR, 0, none⟩) (Kd.R_types HO7.out BR.out (by decide)) (fun _ hk => hk.2) _) (fun _ hk => hk.2) _) (fun _ _ => trivial), by repeat (first | (with_reducible first | exact HB.out | apply below_alloc | apply pw_below_drewN | apply below_drew1 | refine below_set ?_ GR.out | refine below_set ?_ GS.out) | exact HB.out)⟩
  · rw [if_neg h0] at h
    simp only [Option.some.injEq, Prod.mk.injEq] at h
    obtain ⟨rfl, rfl, rfl⟩ := h
    have hb0 : (e != 0) = true := bne_iff_ne.2 h0
    have BR := BR3
    have HB := HB3
    clear BR3 HB3
    go_wp2_with fail
    refine bodyPost_ret (results_ct rfl _ _ gR 25 #[.slice none 0 0, .int .i64 0] (0, 0) _ rfl (by (with_reducible repeat (first | refine blk_drewN ?_ _ | refine blk_drew ?_ | refine blk_alloc ?_ _)); refine blk_put (cs := #[.slice none 0 0, .int .i64 0]) ?_ 1 _ rfl; (with_reducible repeat (first | refine blk_drewN ?_ _ | refine blk_drew ?_ | refine blk_alloc ?_ _)); refine blk_put (cs := #[.slice none 0 0, .int .i64 0]) ?_ 0 _ rfl; (with_reducible repeat (first | refine blk_drewN ?_ _ | refine blk_drew ?_ | refine blk_alloc ?_ _)); exact BR.out) Try.underlying25 rfl (by kernel_rfl)) rfl ?_
    exact ⟨_, rfl, Kd.R_nil _ _ _ _ _, by repeat (first | (with_reducible first | exact HB.out | apply below_alloc | apply pw_below_drewN | apply below_drew1 | refine below_set ?_ GR.out | refine below_set ?_ GS.out) | exact HB.out)⟩

-- PART
end Go.Proofs.Ytnfagiofoicgoaa.P
