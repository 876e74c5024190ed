/- The reference's writer: rows of lengths, weights; used by the claims of this seat. -/
import Derived.Test.YtlffpaploefljaaWrA
import Derived.Test.YtlffpaploefljaaPx0
import Derived.Test.YtlffpaploefljaaPx23
import Derived.Test.YtlffpaploefljaaPx38
import Derived.Test.YtlffpaploefljaaPx5
import Derived.Test.YtlffpaploefljaaPx65
namespace Go.Proofs.Ytlffpaploefljaa.Wr
open Go.RowKit Go.Proofs.Ytlffpaploefljaa.P Go.Proofs.YtlffpaploefljaaW.PrintWords Go.Proofs.YtlffpaploefljaaW.PrintLast Go.Proofs.YtlffpaploefljaaW.PrintMore
open WP (Row Bytes at_ val wN wX Wrote)
open Go.Proofs.Ytlffpaploefljaa.Glue
attribute [local go_sem] max2_int min2_int max_two min_two max_three min_three max_four min_four
set_option linter.unusedVariables false
set_option linter.unusedSimpArgs false
open RowSteps
/-- Two rows that are told by now. -/
def RowInv (l xs ys : List Int) (i : Nat) : Prop := ∃ S, RowS l S i ∧ xs = S.map (·.1) ∧ ys = S.map (·.2.1)
theorem RowInv.next {l xs ys : List Int} {i m r : Nat} {sy mo bt : Int} (h : RowInv l xs ys i) (hi : i < l.length) (hx : ∀ x ∈ l, 0 ≤ x ∧ x ≤ 15) (hr : r = run (l.getD i 0) (l.drop (i + 1)) + 1) (hs : stepOf (l.getD i 0) (prev l i) r = (sy, mo, bt, (m : Int))) :
  RowInv l (xs ++ [sy]) (ys ++ [mo]) (i + m) ∧ 1 ≤ m ∧ i + m ≤ l.length := by
 obtain ⟨S, h1, rfl, rfl⟩ := h
 obtain ⟨h2, h3, h4, _⟩ := h1.next hi hx hr hs
 exact ⟨⟨_, h2, by rw [List.map_append]; rfl, by rw [List.map_append]; rfl⟩, h3, h4⟩
set_option maxHeartbeats 8000000 in
set_option maxRecDepth 100000 in
theorem wr_row {w : World} {l : List Int} (A : Option Addr) (c : Nat) (hl : l.length ≤ 400) (hx : ∀ x ∈ l, 0 ≤ x ∧ x ≤ 15) (hr : Kd.C (Kd.int .i64) w A l.length l) (hc : l.length ≤ c) :
  Calls Try.prog 19 #[.slice A l.length c] w fun e w' => ∃ v0 v1, e = .returned (.tuple #[v0, v1]) ∧ Kd.R (Kd.int .i64) 3 w' w.heap.size (fun _ => True) v0 ((steps l.length (-1) l).map (·.1)) ∧ Kd.R (Kd.int .i64) 3 w' w.heap.size (fun _ => True) v1 ((steps l.length (-1) l).map (·.2.1)) ∧ Below w.heap.size w w' := by
 have HR := Aside0.mk hr
 have HX := Aside0.mk hx
 clear hr hx
 go_enter Try.func19, Try.ntmps19
 go_wp2_with fail
 go_loopg [4, 5, 6] l.length (fun kq v4 v5 v6 w' => ∃ (i : Nat) (xs ys : List Int), v6 = .int .i64 i ∧ i ≤ l.length ∧ Aside0 (l.length ≤ kq + i) ∧ Aside0 (RowInv l xs ys i) ∧ Aside0 (Kd.R (Kd.int .i64) 3 w' w.heap.size (fun k => some k ≠ v5.ownBlock) v4 xs) ∧ Aside0 (Kd.R (Kd.int .i64) 3 w' w.heap.size (fun k => some k ≠ v4.ownBlock) v5 ys) ∧ Aside0 (Below w.heap.size w w'))
 case atStart => exact ⟨0, [], [], rfl, Nat.zero_le _, ⟨Nat.le_refl _⟩, ⟨[], RowS.begin l, rfl, rfl⟩, ⟨Kd.R_nil _ _ _ _ _⟩, ⟨Kd.R_nil _ _ _ _ _⟩, ⟨Below.refl _ _⟩⟩
 case round =>
  obtain ⟨i, xs, ys, rfl, hi, HG, HI, H4, H5, HB⟩ := hrel
  by_cases hlt : i < l.length
  rotate_left
  ·obtain rfl : i = l.length := by omega
   go_wp2_with fail
   go_ret2
   obtain ⟨S, h1, h2, h3⟩ := HI.out
   rw [← h1.ends, ← h2, ← h3]
   exact ⟨_, _, rfl, Kd.R_mono H4.out (fun _ _ => trivial), Kd.R_mono H5.out (fun _ _ => trivial), HB.out⟩
  have hrun := run_le (l.getD i 0) (l.drop (i + 1))
  rw [List.length_drop] at hrun
  obtain ⟨R, hR⟩ : ∃ R, R = run (l.getD i 0) (l.drop (i + 1)) := ⟨_, rfl⟩
  rw [← hR] at hrun
  have HRR := Aside0.mk hR
  clear hR
  have hld : R ≤ 400 := by omega
  obtain ⟨G, hGK⟩ : ∃ G, G = gk := ⟨_, rfl⟩
  have HGK := Aside0.mk hGK
  rw [← hGK] at HG
  clear hGK
  obtain ⟨ad, ead, _⟩ := Kd.at_int HR.out (i : Int) (by omega) (by omega)
  subst ead
  go_wp2_with fail
  go_loopg [7] R (fun kq v7 w' => ∃ (r : Nat), v7 = .int .i64 r ∧ 1 ≤ r ∧ r ≤ R + 1 ∧ Aside0 (kq + r = R + 1) ∧ Aside0 (Kd.R (Kd.int .i64) 3 w' w.heap.size (fun k => some k ≠ u5.ownBlock) u4 xs) ∧ Aside0 (Kd.R (Kd.int .i64) 3 w' w.heap.size (fun k => some k ≠ u4.ownBlock) u5 ys) ∧ Aside0 (Below w.heap.size w w'))
  case atStart => exact ⟨1, rfl, Nat.le_refl _, by omega, ⟨rfl⟩, H4, H5, HB⟩
  case round =>
   clear H4 H5 HB
   obtain ⟨r, rfl, hr1, hr2, HG2, H4, H5, HB⟩ := hrel
   by_cases hr3 : r ≤ R
   ·obtain ⟨hn, hv⟩ := scan_more hr1 (by rw [← HRR.out]; exact hr3)
    have k1 := reads_at (Kd.C_below HR.out HB.out) hn (rd_nat l (i + r))
    rw [hv] at k1
    have k0 := reads_at (Kd.C_below HR.out HB.out) hlt (rd_nat l i)
    obtain ⟨v, hv0⟩ : ∃ v, v = l.getD i 0 := ⟨_, rfl⟩
    rw [← hv0] at k0 k1
    obtain ⟨q, hq⟩ : ∃ q, q = i + r := ⟨_, rfl⟩
    rw [← hq] at k1 hn
    have ws : IntKind.i64.wrap ((i : Int) + (r : Int)) = (q : Int) := by rw [i64_w, wrap64_in (by omega) (by omega)]; omega
    have dq : decide ((q : Int) < (l.length : Int)) = true := decide_eq_true (by omega)
    have HQ := Aside0.mk hq
    clear hv hv0 hq
    go_wp2_with fail
    go_quiet (fail)
    clear k1 k0
    go_wp2_with fail
    go_roundg (gk - 1)
    case measure => have := HG2.out; omega
    case rel => exact ⟨r + 1, by go_num, by omega, by omega, ⟨by have := HG2.out; omega⟩, ⟨Kd.R_drewN H4.out _⟩, ⟨Kd.R_drewN H5.out _⟩, ⟨pw_below_drewN HB.out _⟩⟩
   ·have er : r = R + 1 := by omega
    have k0 := reads_at (Kd.C_below HR.out HB.out) hlt (rd_nat l i)
    obtain ⟨v, hv⟩ : ∃ v, v = l.getD i 0 := ⟨_, rfl⟩
    rw [← hv] at k0
    obtain ⟨q, hq⟩ : ∃ q, q = i + r := ⟨_, rfl⟩
    have ws : IntKind.i64.wrap ((i : Int) + (r : Int)) = (q : Int) := by rw [i64_w, wrap64_in (by omega) (by omega)]; omega
    have HST : Aside0 (∀ sy mo bt : Int, ∀ m : Nat, stepOf v (prev l i) r = (sy, mo, bt, (m : Int)) → RowInv l (xs ++ [sy]) (ys ++ [mo]) (i + m) ∧ 1 ≤ m ∧ i + m ≤ l.length) := ⟨fun sy mo bt m hs => RowInv.next (r := r) HI.out hlt HX.out (by rw [er, HRR.out]) (by rw [← hv]; exact hs)⟩
    have HLN : Aside0 (xs.length ≤ 400 ∧ ys.length ≤ 400) := ⟨by obtain ⟨S, ⟨_, _, _, h4⟩, rfl, rfl⟩ := HI.out; rw [List.length_map, List.length_map]; omega⟩
    have HPV : Aside0 (0 < i → prev l i = l.getD (i - 1) 0) := ⟨fun h => by unfold prev; rw [if_neg (by omega)]⟩
    have HP0 : Aside0 (i = 0 → prev l i = -1) := ⟨fun h => by unfold prev; rw [if_pos h]⟩
    have hvb : 0 ≤ v ∧ v ≤ 15 := by rw [hv]; exact HX.out _ (by rw [List.getD_eq_getElem?_getD, List.getElem?_eq_getElem hlt]; exact List.getElem_mem hlt)
    by_cases hn : q < l.length
    case' pos =>
     have hne := scan_stop (r := r) (by rw [er, HRR.out]) (by omega : i + r < l.length)
     rw [← hq, ← hv] at hne
     have k1 := reads_at (Kd.C_below HR.out HB.out) hn (rd_nat l q)
     generalize l.getD q 0 = y at hne k1
     have dy : (y == v) = false := beq_eq_false_iff_ne.2 hne
     have dq : decide ((q : Int) < (l.length : Int)) = true := decide_eq_true (by omega)
     have HQ := Aside0.mk hq
     have HV := Aside0.mk hv
     have ER := Aside0.mk er
     clear hq hv hne er
     go_wp2_with fail
     go_quiet (fail)
     clear k1 dy
    case' neg =>
     have dq : decide ((q : Int) < (l.length : Int)) = false := decide_eq_false (by omega)
     have HQ := Aside0.mk hq
     have HV := Aside0.mk hv
     have ER := Aside0.mk er
     clear hq hv er
     go_wp2_with fail
     go_quiet (fail)
    all_goals
     clear dq hn ws
     replace H4 := Aside0.mk (Kd.R_drewN H4.out nq)
     replace H5 := Aside0.mk (Kd.R_drewN H5.out nq)
     replace HB := Aside0.mk (pw_below_drewN HB.out nq)
     clear k0
     generalize wr.drewN nq = w5 at H4 H5 HB ⊢
     have k5 := reads_at (Kd.C_below HR.out HB.out) hlt ((rd_nat l i).trans HV.out.symm)
     rcases row_cases v (prev l i) i r with h | h | h | h | h | h | h
     case' inl =>
      have dv : (v == 0) = true := beq_iff_eq.2 h.1
      have dr : decide ((11 : Int) ≤ (r : Int)) = true := decide_eq_true (by omega)
      have HS := Aside0.mk (HST.out _ _ _ _ (step_a h.1 h.2))
      have hmn : (if (138 : Int) < (r : Int) then (138 : Int) else (r : Int)) = ((min r 138 : Nat) : Int) := by split <;> omega
      obtain ⟨m, hm⟩ : ∃ m, m = min r 138 := ⟨_, rfl⟩
      rw [← hm] at hmn HS
      have hm1 : 11 ≤ m ∧ m ≤ 138 := by omega
      clear hm h
     case' inr.inl =>
      have dv : (v == 0) = true := beq_iff_eq.2 h.1
      have dr : decide ((11 : Int) ≤ (r : Int)) = false := decide_eq_false (by omega)
      have dr3 : decide ((3 : Int) ≤ (r : Int)) = true := decide_eq_true (by omega)
      have HS := Aside0.mk (HST.out _ _ _ _ (step_b h.1 h.2.1 h.2.2))
      have hm1 : 3 ≤ r ∧ r ≤ 10 := by omega
      clear h
     case' inr.inr.inl =>
      have dv : (v == 0) = true := beq_iff_eq.2 h.1
      have dw : (v != 0) = false := by rw [h.1]; rfl
      have dr : decide ((11 : Int) ≤ (r : Int)) = false := decide_eq_false (by omega)
      have dr3 : decide ((3 : Int) ≤ (r : Int)) = false := decide_eq_false (by omega)
      have HS := Aside0.mk (HST.out _ _ _ _ (step_d (.inl h)))
      clear h
      go_wp2_with fail
      go_quiet (fail)
      replace H4 := Aside0.mk (Kd.R_drewN H4.out nq)
      replace H5 := Aside0.mk (Kd.R_drewN H5.out nq)
      replace HB := Aside0.mk (pw_below_drewN HB.out nq)
      generalize w5.drewN nq = w6 at H4 H5 HB ⊢
      have k6 := reads_at (Kd.C_below HR.out HB.out) hlt ((rd_nat l i).trans HV.out.symm)
      clear k5
     case' inr.inr.inr.inl =>
      have dv : (v == 0) = false := beq_eq_false_iff_ne.2 h.1
      have dw : (v != 0) = true := bne_iff_ne.2 h.1
      have di : decide ((0 : Int) < (i : Int)) = false := decide_eq_false (by omega)
      have di2 : decide (0 < i) = false := decide_eq_false (by omega)
      have HS := Aside0.mk (HST.out _ _ _ _ (step_d (.inr (.inl ⟨h.1, by rw [HP0.out h.2]; omega⟩))))
      clear h
      go_wp2_with fail
      go_quiet (fail)
      replace H4 := Aside0.mk (Kd.R_drewN H4.out nq)
      replace H5 := Aside0.mk (Kd.R_drewN H5.out nq)
      replace HB := Aside0.mk (pw_below_drewN HB.out nq)
      generalize w5.drewN nq = w6 at H4 H5 HB ⊢
      have k6 := reads_at (Kd.C_below HR.out HB.out) hlt ((rd_nat l i).trans HV.out.symm)
      clear k5
     case' inr.inr.inr.inr.inl =>
      have dv : (v == 0) = false := beq_eq_false_iff_ne.2 h.1
      have dw : (v != 0) = true := bne_iff_ne.2 h.1
      have di : decide ((0 : Int) < (i : Int)) = true := decide_eq_true (by omega)
      have di2 : decide (0 < i) = true := decide_eq_true h.2.1
      obtain ⟨p, hp⟩ : ∃ p, p = i - 1 := ⟨_, rfl⟩
      have hpl : p < l.length := by omega
      have kp := reads_at (Kd.C_below HR.out HB.out) hpl ((rd_nat l p).trans (by rw [hp]; exact (HPV.out h.2.1).symm : _ = prev l i))
      have ws : IntKind.i64.wrap ((i : Int) - 1) = (p : Int) := by rw [i64_w, wrap64_in (by omega) (by omega)]; omega
      have dp : (prev l i == v) = false := beq_eq_false_iff_ne.2 h.2.2
      have HS := Aside0.mk (HST.out _ _ _ _ (step_d (.inr (.inl ⟨h.1, h.2.2⟩))))
      clear h hp
      go_wp2_with fail
      go_quiet (fail)
      replace H4 := Aside0.mk (Kd.R_drewN H4.out nq)
      replace H5 := Aside0.mk (Kd.R_drewN H5.out nq)
      replace HB := Aside0.mk (pw_below_drewN HB.out nq)
      generalize w5.drewN nq = w6 at H4 H5 HB ⊢
      have k6 := reads_at (Kd.C_below HR.out HB.out) hlt ((rd_nat l i).trans HV.out.symm)
      clear k5
     case' inr.inr.inr.inr.inr.inl =>
      have dv : (v == 0) = false := beq_eq_false_iff_ne.2 h.1
      have dw : (v != 0) = true := bne_iff_ne.2 h.1
      have di : decide ((0 : Int) < (i : Int)) = true := decide_eq_true (by omega)
      have di2 : decide (0 < i) = true := decide_eq_true h.2.1
      obtain ⟨p, hp⟩ : ∃ p, p = i - 1 := ⟨_, rfl⟩
      have hpl : p < l.length := by omega
      have kp := reads_at (Kd.C_below HR.out HB.out) hpl ((rd_nat l p).trans (by rw [hp]; exact (HPV.out h.2.1).symm : _ = prev l i))
      have ws : IntKind.i64.wrap ((i : Int) - 1) = (p : Int) := by rw [i64_w, wrap64_in (by omega) (by omega)]; omega
      have dp : (prev l i == v) = true := beq_iff_eq.2 h.2.2.1
      have dr3 : decide ((3 : Int) ≤ (r : Int)) = false := decide_eq_false (by omega)
      have dr4 : decide (3 ≤ r) = false := decide_eq_false (by omega)
      have HS := Aside0.mk (HST.out _ _ _ _ (step_d (.inr (.inr ⟨h.1, h.2.2.2⟩))))
      clear h hp
      go_wp2_with fail
      go_quiet (fail)
      replace H4 := Aside0.mk (Kd.R_drewN H4.out nq)
      replace H5 := Aside0.mk (Kd.R_drewN H5.out nq)
      replace HB := Aside0.mk (pw_below_drewN HB.out nq)
      generalize w5.drewN nq = w6 at H4 H5 HB ⊢
      have k6 := reads_at (Kd.C_below HR.out HB.out) hlt ((rd_nat l i).trans HV.out.symm)
      clear k5
     case' inr.inr.inr.inr.inr.inr =>
      have dv : (v == 0) = false := beq_eq_false_iff_ne.2 h.1
      have dw : (v != 0) = true := bne_iff_ne.2 h.1
      have di : decide ((0 : Int) < (i : Int)) = true := decide_eq_true (by omega)
      have di2 : decide (0 < i) = true := decide_eq_true h.2.1
      obtain ⟨p, hp⟩ : ∃ p, p = i - 1 := ⟨_, rfl⟩
      have hpl : p < l.length := by omega
      have kp := reads_at (Kd.C_below HR.out HB.out) hpl ((rd_nat l p).trans (by rw [hp]; exact (HPV.out h.2.1).symm : _ = prev l i))
      have ws : IntKind.i64.wrap ((i : Int) - 1) = (p : Int) := by rw [i64_w, wrap64_in (by omega) (by omega)]; omega
      have dp : (prev l i == v) = true := beq_iff_eq.2 h.2.2.1
      have dr3 : decide ((3 : Int) ≤ (r : Int)) = true := decide_eq_true (by omega)
      have dr4 : decide (3 ≤ r) = true := decide_eq_true h.2.2.2
      have HS := Aside0.mk (HST.out _ _ _ _ (step_c h.1 h.2.2.1 h.2.2.2))
      have hmn : (if (6 : Int) < (r : Int) then (6 : Int) else (r : Int)) = ((min r 6 : Nat) : Int) := by split <;> omega
      obtain ⟨m, hm⟩ : ∃ m, m = min r 6 := ⟨_, rfl⟩
      rw [← hm] at hmn HS
      have hm1 : 3 ≤ m ∧ m ≤ 6 := by omega
      clear h hp hm
      go_wp2_with fail
      go_quiet (fail)
      replace H4 := Aside0.mk (Kd.R_drewN H4.out nq)
      replace H5 := Aside0.mk (Kd.R_drewN H5.out nq)
      replace HB := Aside0.mk (pw_below_drewN HB.out nq)
      generalize w5.drewN nq = w6 at H4 H5 HB ⊢
      have k6 := reads_at (Kd.C_below HR.out HB.out) hlt ((rd_nat l i).trans HV.out.symm)
      clear k5
     all_goals
      go_wp2_with (first
       | ((with_reducible refine gate_builtin (b := .append) rfl ?_); at_builtin; refine two_append rfl rfl Try.underlying32 info3 rfl rfl H4.out H5.out HB.out (by have := HLN.out; omega) ?_; intro v1 w1 ho1 ho2 hb1 _; clear H4 H5 HB; (have H4 := Aside0.mk ho1); (have H5 := Aside0.mk ho2); (have HB := Aside0.mk hb1); clear ho1 ho2 hb1)
       | ((with_reducible refine gate_builtin (b := .append) rfl ?_); at_builtin; refine two_append rfl rfl Try.underlying32 info3 rfl rfl H5.out H4.out HB.out (by have := HLN.out; omega) ?_; intro v1 w1 ho1 ho2 hb1 _; clear H4 H5 HB; (have H5 := Aside0.mk ho1); (have H4 := Aside0.mk ho2); (have HB := Aside0.mk hb1); clear ho1 ho2 hb1))
      go_roundg (G - 1)
      case measure => have := HG.out; have := HGK.out; omega
      case rel => exact ⟨_, _, _, by go_num, HS.out.2.2, ⟨by have := HG.out; have := HS.out.2.1; omega⟩, ⟨HS.out.1⟩, H4, H5, HB⟩
set_option maxHeartbeats 8000000 in
set_option maxRecDepth 100000 in
theorem wr_cut {w : World} {l : List Int} (A : Option Addr) (c least : Nat) (x : Int) (hx : x = (least : Int)) (hl : l.length ≤ 1000) (hr : Kd.C (Kd.int .i64) w A l.length l) (hc : l.length ≤ c) (hl0 : 1 ≤ least) (hn0 : 0 < l.length) :
  Calls Try.prog 81 #[.slice A l.length c, .int .i64 x] w fun e w' => e = .returned (.slice A (cutN l least l.length) c) ∧ Below w.heap.size w w' := by
 subst hx
 have HR := Aside0.mk hr
 clear hr
 go_enter Try.func81, Try.ntmps81
 go_wp2_with fail
 go_loopg [5] l.length (fun kq v5 w' => ∃ (n : Nat), v5 = .int .i64 n ∧ n ≤ l.length ∧ 0 < n ∧ Aside0 (kq = n) ∧ Aside0 (cutN l least n = cutN l least l.length) ∧ Aside0 (Below w.heap.size w w'))
 case atStart => exact ⟨l.length, rfl, Nat.le_refl _, hn0, ⟨rfl⟩, ⟨rfl⟩, ⟨Below.refl _ _⟩⟩
 case round =>
  obtain ⟨n, rfl, hn, hn1, HG, HC, HB⟩ := hrel
  obtain ⟨n, rfl⟩ : ∃ m, n = m + 1 := ⟨n - 1, by omega⟩
  have hC := HC.out
  simp only [cutN] at hC
  have ws : wrap64 (((n + 1 : Nat) : Int) - 1) = (n : Int) := by rw [wrap64_in (by omega) (by omega)]; omega
  obtain ⟨ad, ead, _⟩ := Kd.at_int HR.out (n : Int) (by omega) (by omega)
  subst ead
  have k0 := reads_at (Kd.C_below HR.out HB.out) (show n < l.length by omega) (rd_nat l n)
  generalize l.getD n 0 = y at hC k0
  have HC2 := Aside0.mk hC
  clear hC
  by_cases h1 : least < n + 1
  ·have d1 : decide ((least : Int) < ((n : Int) + 1)) = true := decide_eq_true (by omega)
   by_cases h2 : y = 0
   ·have d2 : (y == 0) = true := beq_iff_eq.2 h2
    have hC := HC2.out
    rw [if_pos ⟨h1, h2⟩] at hC
    have HC3 := Aside0.mk hC
    clear hC h2 HC2
    go_wp2_with fail
    go_roundg (gk - 1)
    case measure => have := HG.out; omega
    case rel => exact ⟨n, by go_num, by omega, by omega, ⟨by have := HG.out; omega⟩, HC3, HB⟩
   ·have d2 : (y == 0) = false := beq_eq_false_iff_ne.2 h2
    have hC := HC2.out
    rw [if_neg (fun h => h2 h.2)] at hC
    have HE := Aside0.mk hC
    clear hC h2 HC2
    go_wp2_with fail
    go_ret
    exact ⟨by rw [← HE.out]; rfl, HB.out⟩
  ·have d1 : decide ((least : Int) < ((n : Int) + 1)) = false := decide_eq_false (by omega)
   have hC := HC2.out
   rw [if_neg (fun h => h1 h.1)] at hC
   have HE := Aside0.mk hC
   clear hC HC2
   go_wp2_with fail
   go_ret
   exact ⟨by rw [← HE.out]; rfl, HB.out⟩
theorem take_fold (ts : List S53) (ab : List Int × List Int) {i : Nat} (hi : i < ts.length) : (ts.take (i + 1)).foldl stepW ab = stepW ((ts.take i).foldl stepW ab) (rd_T53 ts (i : Int)) := by
 rw [List.take_add_one, List.foldl_append]
 unfold rd_T53
 rw [Int.toNat_natCast, List.getD_eq_getElem?_getD, List.getElem?_eq_getElem hi]
 rfl
set_option maxHeartbeats 8000000 in
set_option maxRecDepth 100000 in
theorem wr_weights {w : World} {ts : List S53} (A : Option Addr) (c : Nat) (ht : ∀ t ∈ ts, Fine t) (hts : ts.length ≤ 5000) (hr : Kd.C k53 w A ts.length ts) (hc : ts.length ≤ c) :
  Calls Try.prog 50 #[.slice A ts.length c] w fun e w' => ∃ g1 c1 g2 c2, e = .returned (.tuple #[.slice (some ⟨g1, 0, none⟩) 286 c1, .slice (some ⟨g2, 0, none⟩) 30 c2]) ∧ Two w w' g1 c1 g2 c2 (wtsR ts).1 (wtsR ts).2 := by
 have HR := Aside0.mk hr
 clear hr
 go_enter Try.func50, Try.ntmps50
 go_wp2_with fail
 refine start_ (n := 4) (S := fun w' => True) (ds := []) #[false, false, false, false] (by kernel_rfl) rfl rfl trivial (fun hHeld => ?_)
 have HB := Aside0.mk (Below.refl w.heap.size w).drew
 generalize w.drew = w6 at HB hHeld ⊢
 refine join_ (σ := Value × Value) 1 #[true, true, true, false] (fun s_ => [(15, s_.1), (16, s_.2), (4, s_.1)]) (fun s_ w' => Kd.R (Kd.int .i64) 3 w' w.heap.size (fun k => some k ≠ (s_.2 : Value).ownBlock) s_.1 (List.replicate 286 0) ∧ Kd.R (Kd.int .i64) 3 w' w.heap.size (fun k => some k ≠ (s_.1 : Value).ownBlock) s_.2 (List.replicate 30 0) ∧ Below w.heap.size w w') ?_ ?_
 rotate_left
 ·intro hCont
  refine two_ (i := 0) (j := 1) (Ni := some 15) (Nj := some 16) #[true, false, false, false] #[false, true, false, false] rfl rfl rfl rfl (by kernel_rfl) (by decide) (by decide) (fun K hK => ?_) (fun K hK => ?_)
  ·refine make_step 286 (by rfl) (N := 15) rfl rfl rfl rfl Try.underlying32 info3 (by decide) fun v15 w7 h15 => hK.out _ _ trivial fun hHeld => ?_
   clear hK K
   refine norm_ (a' := ?_) ?_ ?_
   rotate_left
   ·show Act.put _ (some 15) _ = _
    simp only [Act.put, List.setIfInBounds_toArray, List.set_cons_zero, List.set_cons_succ, i64_w, i32_w]
    rfl
   refine pure_ (i := 2) (N := some 4) (v := ?_) (a' := ?_) #[true, false, true, false] rfl rfl (by kernel_rfl) (fun _ _ _ h => h) (Or.inl ⟨by rfl, ?_⟩) ?_ ?_
   rotate_left
   ·intro w'
    go_simp
    with_reducible rfl
   rotate_left
   ·simp only [Act.put, List.setIfInBounds_toArray, List.set_cons_zero, List.set_cons_succ, i64_w, i32_w]
    rfl
   refine one_ (i := 1) (N := some 16) #[true, true, true, false] rfl rfl (by kernel_rfl) (by decide) (fun K hK => ?_)
   refine make_step 30 (by rfl) (N := 16) rfl rfl rfl rfl Try.underlying32 info3 (by decide) fun v16 w9 h16 => hK.out _ _ trivial fun hHeld => ?_
   clear hK K
   refine norm_ (a' := ?_) ?_ ?_
   rotate_left
   ·show Act.put _ (some 16) _ = _
    simp only [Act.put, List.setIfInBounds_toArray, List.set_cons_zero, List.set_cons_succ, i64_w, i32_w]
    rfl
   exact norm_ (by simp only [putAll, Act.put, List.setIfInBounds_toArray, List.set_cons_zero, List.set_cons_succ]) (hCont (v15, v16) _ (two_made HB.out h15.1 h15.2 h16.1 h16.2))
  ·refine make_step 30 (by rfl) (N := 16) rfl rfl rfl rfl Try.underlying32 info3 (by decide) fun v16 w7 h16 => hK.out _ _ trivial fun hHeld => ?_
   clear hK K
   refine norm_ (a' := ?_) ?_ ?_
   rotate_left
   ·show Act.put _ (some 16) _ = _
    simp only [Act.put, List.setIfInBounds_toArray, List.set_cons_zero, List.set_cons_succ, i64_w, i32_w]
    rfl
   refine one_ (i := 0) (N := some 15) #[true, true, false, false] rfl rfl (by kernel_rfl) (by decide) (fun K hK => ?_)
   refine make_step 286 (by rfl) (N := 15) rfl rfl rfl rfl Try.underlying32 info3 (by decide) fun v15 w9 h15 => hK.out _ _ trivial fun hHeld => ?_
   clear hK K
   refine norm_ (a' := ?_) ?_ ?_
   rotate_left
   ·show Act.put _ (some 15) _ = _
    simp only [Act.put, List.setIfInBounds_toArray, List.set_cons_zero, List.set_cons_succ, i64_w, i32_w]
    rfl
   refine pure_ (i := 2) (N := some 4) (v := ?_) (a' := ?_) #[true, true, true, false] rfl rfl (by kernel_rfl) (fun _ _ _ h => h) (Or.inl ⟨by rfl, ?_⟩) ?_ ?_
   rotate_left
   ·intro w'
    go_simp
    with_reducible rfl
   rotate_left
   ·simp only [Act.put, List.setIfInBounds_toArray, List.set_cons_zero, List.set_cons_succ, i64_w, i32_w]
    rfl
   obtain ⟨q1, q2, q3⟩ := two_made HB.out h16.1 h16.2 h15.1 h15.2
   exact norm_ (by simp only [putAll, Act.put, List.setIfInBounds_toArray, List.set_cons_zero, List.set_cons_succ]) (hCont (v15, v16) _ ⟨q2, q1, q3⟩)
 rintro ⟨v15, v16⟩ w11 ⟨h0, h1, h2⟩
 have hHeld := trivial
 refine norm_ (a' := ?_) ?_ ?_
 rotate_left
 ·simp only [putAll, Act.put, List.setIfInBounds_toArray, List.set_cons_zero, List.set_cons_succ]
  rfl
 refine pure_ (i := 3) (N := some 5) (v := ?_) (a' := ?_) #[true, true, true, true] rfl rfl (by kernel_rfl) (fun _ _ _ h => h) (Or.inl ⟨by rfl, ?_⟩) ?_ ?_
 rotate_left
 ·intro w'
  go_simp
  with_reducible rfl
 rotate_left
 ·simp only [Act.put, List.setIfInBounds_toArray, List.set_cons_zero, List.set_cons_succ, i64_w, i32_w]
  rfl
 refine done_ (by kernel_rfl) ?_
 obtain ⟨g1, c1, e1, gb1, _, _⟩ := Kd.R_form h0 (by simp)
 obtain ⟨g2, c2, e2, gb2, _, _⟩ := Kd.R_form h1 (by simp)
 simp only [List.length_replicate] at e1 e2
 subst e1 e2
 have HT : Aside0 (Two w w11 g1 c1 g2 c2 (List.replicate 286 0) (List.replicate 30 0)) := ⟨⟨fun e => h1.1 g2 rfl (by rw [e]; rfl), Kd.R_mono h0 (fun k hk e => hk (by rw [e]; rfl)), Kd.R_mono h1 (fun k hk e => hk (by rw [e]; rfl)), h2, gb1, gb2⟩⟩
 clear h0 h1 h2 gb1 gb2 HB hHeld
 obtain ⟨k0, k1⟩ := HT.out.cell (i := 256) (by simp)
 replace HT := Aside0.mk (HT.out.put 256 1)
 go_wp2_with fail
 generalize w11.setCell { block := g1, off := 256 } (Value.int IntKind.i64 1) = w12 at HT ⊢
 obtain ⟨ab0, hab0⟩ : ∃ ab0 : List Int × List Int, ab0 = ((List.replicate 286 0).set 256 1, List.replicate 30 0) := ⟨_, rfl⟩
 have hl0 : ab0.1.length = 286 ∧ ab0.2.length = 30 := by rw [hab0]; simp only [List.length_set, List.length_replicate]; trivial
 replace HT : Aside0 (Two w w12 g1 c1 g2 c2 ab0.1 ab0.2) := by rw [hab0]; exact HT
 have HAB0 := Aside0.mk hab0
 clear k0 k1 hab0
 go_loopg [6] ts.length (fun kq v6 w' => ∃ (i : Nat), v6 = .int .i64 i ∧ i ≤ ts.length ∧ Aside0 (kq + i = ts.length) ∧ Aside0 (Two w w' g1 c1 g2 c2 ((ts.take i).foldl stepW ab0).1 ((ts.take i).foldl stepW ab0).2))
 case atStart => exact ⟨0, rfl, Nat.zero_le _, ⟨by omega⟩, by rw [List.take_zero]; exact HT⟩
 case round =>
  clear HT
  obtain ⟨i, rfl, hi, HG, HT⟩ := hrel
  obtain ⟨ab, hab⟩ : ∃ ab, ab = (ts.take i).foldl stepW ab0 := ⟨_, rfl⟩
  have hlen := foldW_len (ts.take i) ab0
  rw [← hab, hl0.1, hl0.2] at hlen
  rw [← hab] at HT
  have HAB := Aside0.mk hab
  clear hab
  by_cases hlt : i < ts.length
  rotate_left
  ·obtain rfl : i = ts.length := by omega
   go_wp2_with fail
   go_ret2
   refine ⟨g1, c1, g2, c2, rfl, ?_⟩
   have e : wtsR ts = ab := by rw [HAB.out, List.take_length, HAB0.out]; rfl
   rw [e]
   exact HT.out
  have hft := take_fold ts ab0 hlt
  obtain ⟨t, et⟩ : ∃ t, t = rd_T53 ts (i : Int) := ⟨_, rfl⟩
  rw [← et, ← HAB.out] at hft
  have hfi := ht t (by
   rw [et]
   unfold rd_T53
   rw [Int.toNat_natCast, List.getD_eq_getElem?_getD, List.getElem?_eq_getElem hlt]
   exact List.getElem_mem hlt)
  have HTK : Aside0 (∀ W, Below w.heap.size w W → ∃ ad, A = some ad ∧ W.cell? (ad.add (i * 3)) = some (.int .u8 t.f0) ∧ W.cell? ⟨(ad.add (i * 3)).block, (ad.add (i * 3)).off + 1, none⟩ = some (.int .i64 t.f1) ∧ W.cell? ⟨(ad.add (i * 3)).block, (ad.add (i * 3)).off + 2, none⟩ = some (.int .i64 t.f2)) := ⟨fun W hW => by
   obtain ⟨ad', ead, k0, k1, k2⟩ := at_T53 (Kd.C_below HR.out hW) (i : Int) (by omega) (by omega)
   rw [← et, Int.toNat_natCast] at k0
   rw [← et, Int.toNat_natCast] at k1 k2
   exact ⟨ad', ead, k0, k1, k2⟩⟩
  have HFT := Aside0.mk hft
  clear hft et
  obtain ⟨ad, ead, k0, k1, k2⟩ := HTK.out wr HT.out.bel
  subst ead
  obtain ⟨a, b⟩ := ab
  simp only at hlen HT
  by_cases h0 : t.f1 = 0
  ·have d0 : (t.f1 == 0) = true := beq_iff_eq.2 h0
   obtain ⟨xn, hxn⟩ := Int.eq_ofNat_of_zero_le hfi.1
   have hx8 : xn < 256 := by have := hfi.2.1; omega
   have HE : Aside0 (stepW (a, b) t = (inc a xn, b)) := ⟨by unfold stepW; rw [if_pos h0, hxn, Int.toNat_natCast]⟩
   rw [hxn] at k0
   obtain ⟨y1, y2⟩ := HT.out.cell (i := xn) (by omega)
   obtain ⟨y, hy⟩ : ∃ y, y = rd a (xn : Int) := ⟨_, rfl⟩
   rw [← hy] at y1
   obtain ⟨z, hz⟩ : ∃ z, wrap64 (y + 1) = z := ⟨_, rfl⟩
   have hz2 : IntKind.i64.wrap (y + 1) = z := (i64_w _).trans hz
   have HZ : Aside0 (a.set xn z = inc a xn) := ⟨by rw [← hz, hy]; rfl⟩
   clear hy hfi hxn h0
   go_wp2_with fail
   go_roundg (gk - 1)
   case measure => have := HG.out; omega
   case rel =>
    refine ⟨i + 1, by go_num, by omega, ⟨by have := HG.out; omega⟩, ⟨?_⟩⟩
    rw [HFT.out, HE.out, ← HZ.out]
    exact HT.out.put xn z
  ·have d0 : (t.f1 == 0) = false := beq_eq_false_iff_ne.2 h0
   have hp : 3 ≤ t.f1 ∧ t.f1 ≤ 258 ∧ 1 ≤ t.f2 ∧ t.f2 ≤ 2048 := by
    rcases hfi.2.2 with h | h
    ·exact absurd h.1 h0
    ·exact h
   have HE : Aside0 (stepW (a, b) t = (inc a (lenOf t.f1).1, inc b (distOf t.f2).1)) := ⟨by unfold stepW; rw [if_neg h0]⟩
   have hrl := rlen_is hp.1 hp.2.1
   have hrd := rdist_is hp.2.2.1 (show t.f2 ≤ 32768 by omega)
   have l3 := (lenOf_is hp.1 hp.2.1).1.le
   have d3 := (distOf_is hp.2.2.1 (show t.f2 ≤ 32768 by omega)).1.le
   obtain ⟨q1, q2⟩ : (lenOf t.f1).1 < 286 ∧ (distOf t.f2).1 < 30 := by omega
   generalize (lenOf t.f1).1 = ls at hrl HE q1
   generalize (distOf t.f2).1 = ds at hrd HE q2
   have HRL := Aside0.mk hrl
   have HRD := Aside0.mk hrd
   clear l3 d3 hp hfi hrl hrd h0
   go_wp2_with fail
   refine (wherryref01_Len.calls 400 t.f1 _ _ _ _ wr HRL.out).mono ?_
   rintro e w5 ⟨rfl, hd5⟩
   replace HT := Aside0.mk (HT.out.below hd5.below)
   clear k0 k1 k2 hd5
   obtain ⟨_, ead, k0, k1, k2⟩ := HTK.out w5 HT.out.bel
   injection ead with ead
   subst ead
   go_wp2_with fail
   refine (wherryref01_Dist.calls 400 t.f2 _ _ _ _ w5 HRD.out).mono ?_
   rintro e w6 ⟨rfl, hd6⟩
   replace HT := Aside0.mk (HT.out.below hd6.below)
   clear k0 k1 k2 hd6
   obtain ⟨y1, y2⟩ := HT.out.cell (i := ls) (by omega)
   obtain ⟨y, hy⟩ : ∃ y, y = rd a (ls : Int) := ⟨_, rfl⟩
   rw [← hy] at y1
   obtain ⟨z, hz⟩ : ∃ z, wrap64 (y + 1) = z := ⟨_, rfl⟩
   have hz2 : IntKind.i64.wrap (y + 1) = z := (i64_w _).trans hz
   have HZ : Aside0 (a.set ls z = inc a ls) := ⟨by rw [← hz, hy]; rfl⟩
   have HT2 := Aside0.mk (HT.out.put ls z)
   obtain ⟨y3, y4⟩ := HT2.out.swap.cell (i := ds) (by omega)
   obtain ⟨x, hx⟩ : ∃ x, x = rd b (ds : Int) := ⟨_, rfl⟩
   rw [← hx] at y3
   obtain ⟨u, hu⟩ : ∃ u, wrap64 (x + 1) = u := ⟨_, rfl⟩
   have hu2 : IntKind.i64.wrap (x + 1) = u := (i64_w _).trans hu
   have HU : Aside0 (b.set ds u = inc b ds) := ⟨by rw [← hu, hx]; rfl⟩
   clear hy hx
   go_wp2_with fail
   go_roundg (gk - 1)
   case measure => have := HG.out; omega
   case rel =>
    refine ⟨i + 1, by go_num, by omega, ⟨by have := HG.out; omega⟩, ⟨?_⟩⟩
    rw [HFT.out, HE.out, ← HZ.out, ← HU.out]
    exact (HT2.out.swap.put ds u).swap
section
variable {P : Program} {ops : Array Oper} {o : Oper} {rest : List Oper} {a : Act} {Q : Exit → Act → World → Prop}
/-- A row of whole numbers behind another one, which is its caller's own since W0. -/
theorem row_append {W0 W : World} {t : TypeId} {v : Value} {xs ys : List Int} {s x : Operand} {A : Option Addr} {c : Nat} (hgd : o.guard = none)
  (ho : o.op = .call { callee := .builtin .append, args := #[s, x], argTypes := #[t, t] }) (ht : P.underlying t = some (.slice 3)) (hinfo : (P.info? 3).map (fun i => (i.zero, i.size, i.bytes)) = some (some (.int .i64 0), 1, 8))
  (hs : a.eval s = v) (hx : a.eval x = .slice A ys.length c) (HO : Kd.R (Kd.int .i64) 3 W W0.heap.size (fun _ => True) v xs) (HR : Kd.C (Kd.int .i64) W A ys.length ys) (HB : Below W0.heap.size W0 W) (hl : xs.length + ys.length ≤ 1000000)
  (h : ∀ v1 w1, Kd.R (Kd.int .i64) 3 w1 W0.heap.size (fun _ => True) v1 (xs ++ ys) ∧ Below W0.heap.size W0 w1 → wpList P ops Q rest (a.put o.dst v1) w1) : wpList P ops Q (o :: rest) a W :=
 Kd.R_append_rows (Kd.int .i64) (w0 := W0) W0.heap.size hgd s x t 3 (.int .i64 0) 8 ho ht hinfo rfl (by decide) (by omega) v xs ys A ys.length c (fun _ => True) (fun _ => False) hs hx HO HR (fun _ _ h => h) (fun _ h => h.elim) (fun _ _ => trivial) HB HB.size (by omega) (fun v1 w1 h1 h2 _ _ => h v1 w1 ⟨h1, h2⟩)
/-- One number more behind a row that is its caller's own since W0. -/
theorem row_snoc {W0 W : World} {t : TypeId} {v : Value} {xs : List Int} {p : Int} {s x : Operand} (hgd : o.guard = none)
  (ho : o.op = .call { callee := .builtin .append, args := #[s, x], argTypes := #[t, t] }) (ht : P.underlying t = some (.slice 3)) (hinfo : (P.info? 3).map (fun i => (i.zero, i.size, i.bytes)) = some (some (.int .i64 0), 1, 8))
  (hs : a.eval s = v) (hx : a.eval x = .slice (some ⟨W.heap.size, 0, none⟩) 1 1) (HO : Kd.R (Kd.int .i64) 3 W W0.heap.size (fun _ => True) v xs) (HB : Below W0.heap.size W0 W) (hl : xs.length ≤ 1000000)
  (h : ∀ v1 w1, Kd.R (Kd.int .i64) 3 w1 W0.heap.size (fun _ => True) v1 (xs ++ [p]) ∧ Below W0.heap.size W0 w1 → wpList P ops Q rest (a.put o.dst v1) w1) : wpList P ops Q (o :: rest) a (W.alloc (.cells #[.int .i64 p] 3)) :=
 Kd.R_append (Kd.int .i64) (w0 := W0) W0.heap.size hgd s x t 3 (.int .i64 0) 8 ho ht hinfo rfl (by decide) (by omega) v xs p [.int .i64 p] (fun _ => True) (fun _ => False) hs hx rfl (fun _ hk => hk.elim) (fun _ _ => trivial) HO HB HB.size (by omega) (fun v1 w1 h1 h2 _ _ => h v1 w1 ⟨h1, h2⟩)
/-- A row of 0s is made. -/
theorem row_make {W : World} {t : TypeId} {x y : Operand} {N : Tmp} (n : Nat) (hgd : o.guard = none) (hd : o.dst = some N) (ho : o.op = .makeSlice t x y) (hx : a.eval x = .int .i64 (n : Int)) (hy : a.eval y = .int .i64 (n : Int)) (ht : P.underlying t = some (.slice 3)) (hinfo : (P.info? 3).map (fun i => (i.zero, i.size, i.bytes)) = some (some (.int .i64 0), 1, 8)) (hl : n ≤ 1000000)
  (h : ∀ v1 w1, Kd.R (Kd.int .i64) 3 w1 W.heap.size (fun _ => True) v1 (List.replicate n 0) ∧ Below W.heap.size W w1 → wpList P ops Q rest (a.put o.dst v1) w1) : wpList P ops Q (o :: rest) a W :=
 Kd.R_make (Kd.int .i64) _ 3 hgd hd t x y ho n hx hy ht (.int .i64 0) 8 hinfo rfl (by decide) (by omega) 0 (ok := fun _ => True) (okp := fun _ => True) rfl (fun _ hk => hk) trivial (by omega) (by simp only [Int.toNat_natCast]; omega) (Below.refl _ _) (Nat.le_refl _) (fun v1 w1 h1 h2 _ _ => h v1 w1 ⟨by simpa using h1, h2⟩)
end
end Go.Proofs.Ytlffpaploefljaa.Wr
