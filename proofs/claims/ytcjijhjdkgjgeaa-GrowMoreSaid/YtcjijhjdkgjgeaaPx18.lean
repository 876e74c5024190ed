-- Written by a program of this session out of the translation. Lean checks it.
import Derived.Test.YtcjijhjdkgjgeaaPx0
import Derived.Test.YtcjijhjdkgjgeaaPx2
import Derived.Test.YtcjijhjdkgjgeaaPx4
import Derived.Test.YtcjijhjdkgjgeaaPx8
import Derived.Test.YtcjijhjdkgjgeaaPx16
import Derived.Test.YtcjijhjdkgjgeaaPx17
namespace Go.Proofs.Ytcjijhjdkgjgeaa.P
open Go.RowKit Go.Proofs.YtcjijhjdkgjgeaaW.PrintWords Go.Proofs.YtcjijhjdkgjgeaaW.PrintLast Go.Proofs.YtcjijhjdkgjgeaaW.PrintMore
attribute [local go_sem] max2_int min2_int max_two min_two max_three min_three max_four min_four   -- for this text's walks alone
set_option linter.unusedVariables false
set_option linter.unusedSimpArgs false

-- PART
/-! ### grow_reader_own: function 65 (by hand) -/
theorem introw_keepT {W W' : World} {base : Nat} {v : Value} {xs : List Int} (h : Kd.R (Kd.int .i64) 3 W base (fun _ => True) v xs) (hk : KeepT W W') : Kd.R (Kd.int .i64) 3 W' base (fun _ => True) v xs :=
  brow_stay h fun k hkk => by
    obtain ⟨cells, hc⟩ := brow_cells h hkk
    rw [hc]
    exact hk.2 _ _ _ hc (by decide) (by decide)
theorem Rdr.int_put {w0 W : World} {g : Nat} {b : List Int} {most : Int} {s : RSt} (h : Rdr w0 W g b most s) {p : Nat} {cs : Array Value} (hp : W.heap[p]? = some (.cells cs 3 (0, 0))) (i : Nat) (v : Value) : Rdr w0 (W.setCell ⟨p, i, none⟩ v) g b most s := by
  obtain ⟨A0, c0, v3, h1, h2, h3, h4, h5⟩ := h
  have hne : g ≠ p := by
    rintro rfl
    rw [h1] at hp
    injection hp with hp
    injection hp with _ ht
    exact absurd ht (by decide)
  exact ⟨A0, c0, v3, blk_far (p := ⟨p, i, none⟩) h1 hne v, h2, h3, h4, Kd.R_mono (Kd.R_far (p := ⟨p, i, none⟩) (Kd.R_types h5 hp (by decide)) (fun _ hk => hk.2) v) (fun _ hk => hk.1)⟩
theorem KeepT.fresh {w W : World} (h : KeepT w W) {p : Nat} (hp : w.heap.size ≤ p) (i : Nat) (v : Value) : KeepT w (W.setCell ⟨p, i, none⟩ v) := by
  refine ⟨by have := h.1; simp [World.setCell]; omega, fun k c t hk h5 h9 => blk_far (p := ⟨p, i, none⟩) (h.2 k c t hk h5 h9) ?_ v⟩
  have := heap_lt hk
  show k ≠ p
  omega
def ordL : List Int := [16, 17, 18, 0, 8, 7, 9, 6, 10, 5, 11, 4, 12, 3, 13, 2, 14, 1, 15]
theorem ord_in : ∀ i : Fin 19, 0 ≤ ordL.getD i.val 0 ∧ ordL.getD i.val 0 < 19 := by decide
/-- The lengths' own, from the i-th on. -/
def ownL (b : List Int) : Nat → Nat → List Int → RSt → Option (List Int × RSt)
  | 0, _, out, s => some (out, s)
  | d + 1, i, out, s => (takeS b s 3).bind fun r => ownL b d (i + 1) (out.set (ordL.getD i 0).toNat r.1) r.2
def ownS (b : List Int) (s : RSt) (many : Int) : Option (List Int × RSt) :=
  if 0 ≤ many ∧ many ≤ 19 then (ownL b many.toNat 0 (List.replicate 19 0) s).bind fun r => (canon_Check.f r.1).bind fun e => some (r.1, wantS r.2 (e == 0) 3) else none
set_option maxHeartbeats 8000000 in
set_option maxRecDepth 100000 in
theorem rdr_own (g : Nat) (b : List Int) (most : Int) (s : RSt) (many : Int) (r1 : List Int) (sr : RSt) (w0 w : World) (hR : Rdr w0 w g b most s) (hB : Below w0.heap.size w0 w) (h : ownS b s many = some (r1, sr)) :
    Calls Try.prog 65 #[.pointer (some ⟨g, 0, none⟩), .int .i64 many] w fun r w' => ∃ v, r = .returned v ∧ Kd.R (Kd.int .i64) 3 w' w.heap.size (fun _ => True) v r1 ∧ Rdr w0 w' g b most sr ∧ Below w0.heap.size w0 w' ∧ KeepT w w' := by
  unfold ownS at h
  by_cases hm : 0 ≤ many ∧ many ≤ 19
  rotate_left
  · rw [if_neg hm] at h; cases h
  rw [if_pos hm] at h
  obtain ⟨m, rfl⟩ : ∃ m : Nat, many = (m : Int) := ⟨many.toNat, by omega⟩
  rw [Int.toNat_natCast] at h
  have hm19 : m ≤ 19 := by omega
  have hm19i : (m : Int) ≤ 19 := by omega
  obtain ⟨⟨ra, sa⟩, hl, h⟩ := Option.bind_eq_some_iff.1 h
  obtain ⟨e0, hc, h⟩ := Option.bind_eq_some_iff.1 h
  have HL := Aside0.mk hl
  have HCk := Aside0.mk hc
  have HE := Aside0.mk h
  have HR := Aside0.mk hR
  have HB := Aside0.mk hB
  clear h hl hc hR hB hm
  go_enter Try.func65, Try.ntmps65
  go_wp2_with fail
  refine (shrink_Order.calls _ w rfl).mono ?_
  rintro e w1 ⟨vo, rfl, ho, hb⟩
  obtain ⟨g0, c0, e1, hg1, hg2, ocs, hocs⟩ := Kd.R_form ho (by decide)
  subst e1
  have HB1 := Aside0.mk (show Below w0.heap.size w0 w1 from below_then HB.out HB.out.size hb)
  have HR1 := Aside0.mk (HR.out.below hb)
  have HK1 := Aside0.mk (KeepT.of_below hb)
  have HS1 := Aside0.mk hb.size
  clear hb ho hocs hg1 hg2 HR HB
  go_wp2_with (refine Kd.R_make (Kd.int .i64) (w0 := w1) w1.heap.size 3 rfl rfl 73 (.tmp 9) (.tmp 9) rfl (19 : Int) rfl rfl Try.underlying73 (.int .i64 0) 8 info3 rfl (by decide) (by decide) (0 : Int) (ok := fun _ => True) (okp := fun _ => False) rfl (fun _ hk => hk.elim) trivial (by omega) (by omega) (Below.refl _ _) (Nat.le_refl _) ?_; intro v1 wB ho hb hg hat; (have HO := Aside0.mk ho); (have HBm := Aside0.mk hb); clear ho hb hg hat)
  rw [show (19 : Int).toNat = 19 from rfl] at HO
  obtain ⟨go, co, e1, hgo1, hgo2, ocs, hocs⟩ := Kd.R_form HO.out (by decide)
  rw [List.length_replicate] at e1
  subst e1
  have HBB := Aside0.mk (show Below w0.heap.size w0 wB from below_then HB1.out HB1.out.size HBm.out)
  have HRB := Aside0.mk (HR1.out.below HBm.out)
  have HKB := Aside0.mk (HK1.out.below HBm.out)
  have HGo := Aside0.mk (show w.heap.size ≤ go ∧ w0.heap.size ≤ go from ⟨Nat.le_trans HS1.out hgo1, Nat.le_trans HB1.out.size hgo1⟩)
  have HGo2 := Aside0.mk hgo2
  clear HR1 HB1 HK1 HBm hocs hgo1 hgo2
  refine (shrink_Order.calls _ wB rfl).mono ?_
  rintro e w2 ⟨vo, rfl, ho, hb⟩
  obtain ⟨g2, c2, e1, hg1, hg2, ocs2, hocs2⟩ := Kd.R_form ho (by decide)
  subst e1
  have hc19 := (Kd.R_reads' ho).2.1
  have hl19 : ([16, 17, 18, 0, 8, 7, 9, 6, 10, 5, 11, 4, 12, 3, 13, 2, 14, 1, 15] : List Int).length = 19 := rfl
  have HORD := Aside0.mk (show Kd.R (Kd.int .i64) 3 w2 wB.heap.size (fun _ => True) (.slice (some ⟨g2, 0, none⟩) 19 c2) ordL from ho)
  have HO2 := Aside0.mk (introw_keepT (Kd.R_below HO.out hb) (KeepT.refl _))
  have HB2 := Aside0.mk (show Below w0.heap.size w0 w2 from below_then HBB.out HBB.out.size hb)
  have HR2 := Aside0.mk (HRB.out.below hb)
  have HK2 := Aside0.mk (HKB.out.below hb)
  have HG2o := Aside0.mk hg1
  clear hb ho hocs2 hg1 hg2 HRB HBB HKB HO
  rw [hl19] at hc19
  have hcm : m ≤ c2 := by omega
  have hcmi : (m : Int) ≤ (c2 : Int) := by omega
  go_wp2_with fail
  clear h
  go_loopg [15] m (fun kq v15 w' => ∃ (i : Nat) (oi : List Int) (si : RSt), v15 = .int .i64 i ∧ i ≤ m ∧ oi.length = 19 ∧ Aside0 (kq + i = m) ∧ Aside0 (ownL b (m - i) i oi si = some (ra, sa)) ∧ Aside0 (Kd.R (Kd.int .i64) 3 w' w1.heap.size (fun _ => True) (.slice (some ⟨go, 0, none⟩) 19 co) oi) ∧ Aside0 (Kd.R (Kd.int .i64) 3 w' wB.heap.size (fun _ => True) (.slice (some ⟨g2, 0, none⟩) 19 c2) ordL) ∧ Aside0 (Rdr w0 w' g b most si) ∧ Aside0 (Below w0.heap.size w0 w') ∧ Aside0 (KeepT w w'))
  case atStart => exact ⟨0, _, s, rfl, Nat.zero_le _, rfl, ⟨rfl⟩, HL, HO2, HORD, HR2, HB2, HK2⟩
  case round =>
    clear HL HO2 HORD HR2 HB2 HK2
    obtain ⟨i, oi, si, rfl, hi, hol, HG, HL, HO, HORD, HR, HB, HK⟩ := hrel
    by_cases hlt : i < m
    · have h := HL.out
      rw [show m - i = (m - i - 1) + 1 from by omega] at h
      unfold ownL at h
      obtain ⟨⟨v3, s3⟩, ht, h⟩ := Option.bind_eq_some_iff.1 h
      have HT := Aside0.mk ht
      have HL2 := Aside0.mk h
      have hx := ord_in ⟨i, by omega⟩
      obtain ⟨q, hq⟩ : ∃ q : Nat, ordL.getD i 0 = (q : Int) := ⟨(ordL.getD i 0).toNat, by simp only at hx; omega⟩
      have hq19 : q < 19 := by simp only at hx; omega
      obtain ⟨hcell, _⟩ := Kd.R_celln (0 : Int) HORD.out (i : Int) (by omega) (by show (i : Int) < 19; omega)
      rw [show rdOf (0 : Int) ordL (i : Int) = (q : Int) from by unfold rdOf; rw [Int.toNat_natCast]; exact hq, Int.toNat_natCast] at hcell
      rw [hq, Int.toNat_natCast] at HL2
      have hq0 : (0 : Int) ≤ (q : Int) := by omega
      have hqi : (q : Int) < 19 := by omega
      have hii : (i : Int) < (m : Int) := by omega
      clear ht h HL hx hq
      go_wp2_with fail
      refine (rdr_take g b most si 3 v3 s3 w0 wr HR.out HB.out HT.out).mono ?_
      rintro e w3 ⟨rfl, hR3, hB3, hK3⟩
      have HR3 := Aside0.mk hR3
      have HB3 := Aside0.mk hB3
      have HO3 := Aside0.mk (introw_keepT HO.out hK3)
      have HORD3 := Aside0.mk (introw_keepT HORD.out hK3)
      have HK3 := Aside0.mk (HK.out.trans hK3)
      clear hR3 hB3 hK3 HR HB HO HORD HK hcell
      obtain ⟨hoc, hof⟩ := Kd.R_celln (0 : Int) HO3.out (q : Int) hq0 hqi
      have HP := Aside0.mk (Kd.R_putn HO3.out (q : Int) v3)
      rw [Int.toNat_natCast] at hoc hof HP
      obtain ⟨cso, hcso⟩ := brow_cells HO3.out (k := go) rfl
      have HRp := Aside0.mk (HR3.out.int_put hcso q (.int .i64 v3))
      have HKp := Aside0.mk (HK3.out.fresh HGo.out.1 q (.int .i64 v3))
      have HBp := Aside0.mk (HB3.out.setCell (p := ⟨go, q, none⟩) HGo.out.2 (.int .i64 v3))
      have HORDp := Aside0.mk (brow_stay HORD3.out (w' := w3.setCell ⟨go, q, none⟩ (.int .i64 v3)) fun k hk => Below.heap_setCell w3 ⟨go, q, none⟩ _ k (by
        have h1 := HG2o.out
        have h2 := HGo2.out
        have h3 : some g2 = some k := hk
        injection h3 with h3
        show k ≠ go
        omega))
      clear hcso HR3 HB3 HO3 HORD3 HK3
      go_wp2_with fail
      go_roundg (gk - 1)
      case measure => have := HG.out; omega
      case rel => exact ⟨i + 1, _, _, by go_num, by omega, by rw [List.length_set]; exact hol, ⟨by have := HG.out; omega⟩, ⟨by rw [show m - (i + 1) = m - i - 1 from by omega]; exact HL2.out⟩, HP, HORDp, HRp, HBp, HKp⟩
    · have hi2 : i = m := by omega
      subst hi2
      have h := HL.out
      rw [Nat.sub_self] at h
      unfold ownL at h
      injection h with h
      injection h with h1 h2
      subst h1 h2
      go_wp2_with fail
      have hcall := canon_Check.calls (some ⟨go, 0, none⟩) co oi e0 wr (Kd.R_reads' HO.out).2.2 (by have := (Kd.R_reads' HO.out).2.1; omega) HCk.out
      rw [hol] at hcall
      refine hcall.mono ?_
      rintro e w3 ⟨rfl, hb⟩
      have HR3 := Aside0.mk (HR.out.below hb)
      have HB3 := Aside0.mk (show Below w0.heap.size w0 w3 from below_then HB.out HB.out.size hb)
      have HK3 := Aside0.mk (HK.out.below hb)
      have HO3 := Aside0.mk (Kd.R_below HO.out hb)
      clear hb HR HB HK HO HORD hcall
      go_wp2_with fail
      refine (rdr_want g b most si (e0 == 0) 3 w0 w3 HR3.out HB3.out).mono ?_
      rintro e w4 ⟨rfl, hR4, hB4, hK4⟩
      have h := HE.out
      injection h with h
      injection h with h1 h2
      subst h1
      rw [h2] at hR4 ⊢
      have HR4 := Aside0.mk hR4
      have HB4 := Aside0.mk hB4
      have HO4 := Aside0.mk (introw_keepT HO3.out hK4)
      have HK4 := Aside0.mk (HK3.out.trans hK4)
      clear hR4 hB4 hK4 h2
      go_wp2_with fail
      go_ret
      exact ⟨_, rfl, Kd.R_lower HO4.out HS1.out, HR4.out, HB4.out, HK4.out⟩

-- PART
end Go.Proofs.Ytcjijhjdkgjgeaa.P
