-- Written by a program of this session out of the translation. Lean checks it.
import Derived.Test.YtlffpaploefljaaPx0
import Derived.Test.YtlffpaploefljaaPx51
import Derived.Test.YtlffpaploefljaaPx29
import Derived.Test.YtlffpaploefljaaPx45
namespace Go.Proofs.Ytlffpaploefljaa.P
open Go.RowKit Go.Proofs.YtlffpaploefljaaW.PrintWords Go.Proofs.YtlffpaploefljaaW.PrintLast Go.Proofs.YtlffpaploefljaaW.PrintMore
open List (setIfInBounds_toArray set_cons_zero set_cons_succ)
attribute [local go_sem] max2_int min2_int max_two min_two max_three min_three max_four min_four   -- for this text's walks alone
set_option linter.unusedVariables false
set_option linter.unusedSimpArgs false

/-! ### wherryref01_read: function 97 -/
mutual
def wherryref01_read.l0 : Nat → List Int → List Int → List Int → Int → Int → Int → Option (Int × Int)
 | 0, _, _, _, _, _, _ => none
 | k + 1, x0, x1, x2, x3, x10, x11 => if x11 ≤ 15 then (wherryref01_read.j1 k x0 x1 x2 x3 x10 x11 (decide ((wrap64 (x3 + x11)) ≤ (wrap64 (8 * (x2.length : Int)))))) else (wherryref01_read.j1 k x0 x1 x2 x3 x10 x11 false)
def wherryref01_read.j1 : Nat → List Int → List Int → List Int → Int → Int → Int → Bool → Option (Int × Int)
 | 0, _, _, _, _, _, _, _ => none
 | k + 1, x0, x1, x2, x3, x10, x11, x23 => if x23 = true then ((wherryref01_bit.f x2 (wrap64 ((wrap64 (x3 + x11)) - 1))).bind fun t242 => (wherryref01_read.l1 k x0 x1 x2 x3 (wrap64 ((wrap64 (2 * x10)) + t242)) x11 0)) else (some ((-1), 0))
def wherryref01_read.l1 : Nat → List Int → List Int → List Int → Int → Int → Int → Int → Option (Int × Int)
 | 0, _, _, _, _, _, _, _ => none
 | k + 1, x0, x1, x2, x3, x10, x11, x12 => if x12 < (x0.length : Int) then (if 0 ≤ x12 then (if (rd x0 x12) = x11 then (if x12 < (x1.length : Int) then (if (rd x1 x12) = x10 then (some (x12, wrap64 (x3 + x11))) else (wherryref01_read.l1 k x0 x1 x2 x3 x10 x11 (wrap64 (x12 + 1)))) else (none)) else (wherryref01_read.l1 k x0 x1 x2 x3 x10 x11 (wrap64 (x12 + 1)))) else (none)) else (wherryref01_read.l0 k x0 x1 x2 x3 x10 (wrap64 (x11 + 1)))
end
def wherryref01_read.f (k : Nat) (l0 : List Int) (l1 : List Int) (l2 : List Int) (a3 : Int) : Option (Int × Int) := wherryref01_read.l0 k l0 l1 l2 a3 0 1
set_option maxHeartbeats 8000000 in
set_option maxRecDepth 100000 in
theorem wherryref01_read.calls (k : Nat) (A0 : Option Addr) (c0 : Nat) (l0 : List Int) (A1 : Option Addr) (c1 : Nat) (l1 : List Int) (A2 : Option Addr) (c2 : Nat) (l2 : List Int) (a3 : Int) (r1 : Int) (r2 : Int) (w : World) (hr0 : Kd.C (Kd.int .i64) w A0 l0.length l0) (hc0 : l0.length ≤ c0) (hr1 : Kd.C (Kd.int .i64) w A1 l1.length l1) (hc1 : l1.length ≤ c1) (hr2 : Kd.C (Kd.int .u8) w A2 l2.length l2) (hc2 : l2.length ≤ c2) (h : wherryref01_read.f k l0 l1 l2 a3 = some (r1, r2)) :
  Calls Try.prog 97 #[.slice A0 l0.length c0, .slice A1 l1.length c1, .slice A2 l2.length c2, .int .i64 a3] w fun e w' => e = .returned (.tuple #[.int .i64 r1, .int .i64 r2]) ∧ Drawn0 w w' := by
 have HR0 := Aside0.mk hr0
 have HC0 := Aside0.mk hc0
 clear hr0 hc0
 have HR1 := Aside0.mk hr1
 have HC1 := Aside0.mk hc1
 clear hr1 hc1
 have HR2 := Aside0.mk hr2
 have HC2 := Aside0.mk hc2
 clear hr2 hc2
 have H : (wherryref01_read.l0 k l0 l1 l2 a3 0 1) = some (r1, r2) := h
 clear h
 have H' := Aside0.mk H
 clear H
 go_enter Try.func97, Try.ntmps97
 go_wp2
 go_loopg [10, 11] k (fun kq v10 v11 w' => ∃ (x10_1 : Int) (x11_1 : Int), v10 = .int .i64 x10_1 ∧ v11 = .int .i64 x11_1 ∧ Aside0 (wherryref01_read.l0 kq l0 l1 l2 a3 x10_1 x11_1 = some (r1, r2)) ∧ Aside0 (kq ≤ k) ∧ Drawn0 w w')
 case atStart => exact ⟨(0), (1), (by first | rfl | (simp; done) | (simp [*]; done)), (by first | rfl | (simp; done) | (simp [*]; done)), H', ⟨Nat.le_refl _⟩, by repeat (first | exact Drawn0.refl _ | apply Drawn0.step)⟩
 case round =>
  clear H'
  try clear c1
  try clear c2
  try clear p2
  obtain ⟨x10_1, x11_1, rfl, rfl, HA, HK1, ⟨m1, rfl⟩⟩ := hrel
  cases gk with
  | zero => exact absurd HA.out (by simp [wherryref01_read.l0])
  | succ k1 =>
   have H := HA.out
   clear HA
   simp only [wherryref01_read.l0] at H
   have HC5 := Aside0.mk H
   clear H
   go_upto_region 3 with (fail)
   go_cut [23] (fun v23 wc => ∃ (kq : Nat) (x23_4 : Bool), v23 = .bool x23_4 ∧ Aside0 (wherryref01_read.j1 kq l0 l1 l2 a3 x10_1 x11_1 x23_4 = some (r1, r2)) ∧ Aside0 (kq ≤ k1) ∧ Drawn0 w wc)
   case first =>
    have H := HC5.out
    clear HC5
    by_cases c6 : x11_1 ≤ 15
    ·rw [if_pos c6] at H
     have c6b0 : decide (x11_1 ≤ 15) = true := decide_eq_true c6
     clear c6
     (first | rw [c6b0] | (simp only [i64_w, i32_w]; rw [c6b0]) | skip)
     have H' := Aside0.mk H
     clear H
     go_wp2
     go_meet
     case rel => exact ⟨_, (decide ((wrap64 (a3 + x11_1)) ≤ (wrap64 (8 * (l2.length : Int))))), (by first | rfl | (simp; done) | (simp [*]; done)), H', ⟨by have := HK1.out; first | omega | exact Nat.le_refl _⟩, by repeat (first | exact Drawn0.refl _ | apply Drawn0.step)⟩
    ·rw [if_neg c6] at H
     have c6b0 : decide (x11_1 ≤ 15) = false := decide_eq_false c6
     clear c6
     (first | rw [c6b0] | (simp only [i64_w, i32_w]; rw [c6b0]) | skip)
     have H' := Aside0.mk H
     clear H
     go_wp2
     go_meet
     case rel => exact ⟨_, (false), (by first | rfl | (simp; done) | (simp [*]; done)), H', ⟨by have := HK1.out; first | omega | exact Nat.le_refl _⟩, by repeat (first | exact Drawn0.refl _ | apply Drawn0.step)⟩
   case rest =>
    clear HC5
    try clear c1
    try clear c2
    try clear p2
    try clear c6
    try clear c6b0
    try clear p6
    try clear p2
    obtain ⟨kq, x23_4, rfl, HA, HJ4, ⟨mc4, rfl⟩⟩ := hcut
    cases kq with
    | zero => exact absurd HA.out (by simp [wherryref01_read.j1])
    | succ kj4 =>
     have H := HA.out
     clear HA
     simp only [wherryref01_read.j1] at H
     by_cases c7 : x23_4 = true
     ·subst c7
      have H1 : ((wherryref01_bit.f l2 (wrap64 ((wrap64 (a3 + x11_1)) - 1))).bind fun t242 => (wherryref01_read.l1 kj4 l0 l1 l2 a3 (wrap64 ((wrap64 (2 * x10_1)) + t242)) x11_1 0)) = some (r1, r2) := by rw [if_pos rfl] at H; exact H
      clear H
      have H := H1
      clear H1
      replace H := Option.bind_eq_some_iff.mp H
      obtain ⟨t242, A80, H⟩ := H
      replace H : (wherryref01_read.l1 kj4 l0 l1 l2 a3 (wrap64 ((wrap64 (2 * x10_1)) + t242)) x11_1 0) = some (r1, r2) := H
      have A8 := Aside0.mk A80
      clear A80
      have H' := Aside0.mk H
      clear H
      go_wp2_with (first | ((with_reducible refine gate_callee (f := 96) rfl ?_); refine goesL_ (some 33) rfl rfl Try.func96 (by kernel_rfl) rfl #[.slice A2 l2.length c2, .int .i64 (wrap64 ((wrap64 (a3 + x11_1)) - 1))] rfl (by (try simp only [List.map_toArray, List.map_cons, List.map_nil]); first | done | rfl | (simp only [List.length_drop, List.length_take]; rfl)) ?_; (with_reducible refine (wherryref01_bit.calls _ _ l2 (wrap64 ((wrap64 (a3 + x11_1)) - 1)) t242 _ ?side1 ?side2 A8.out).mono ?_); (case side1 => repeat (first | exact HR2.out | (with_reducible refine Kd.C_alloc ?_ _) | (with_reducible refine Kd.C_drewN ?_ _) | (with_reducible refine Kd.C_drew ?_))); (case side2 => exact HC2.out); rintro e w' ⟨rfl, ⟨nd, rfl⟩⟩; refine ⟨_, rfl, ?_⟩))
      go_loopg [12] kj4 (fun kq v12 w' => ∃ (x12_3 : Int), v12 = .int .i64 x12_3 ∧ Aside0 (wherryref01_read.l1 kq l0 l1 l2 a3 (wrap64 ((wrap64 (2 * x10_1)) + t242)) x11_1 x12_3 = some (r1, r2)) ∧ Aside0 (kq ≤ kj4) ∧ Drawn0 w w')
      case atStart => exact ⟨(0), (by first | rfl | (simp; done) | (simp [*]; done)), H', ⟨Nat.le_refl _⟩, by repeat (first | exact Drawn0.refl _ | apply Drawn0.step)⟩
      case round =>
       clear H'
       try clear c1
       try clear c2
       try clear p2
       try clear c4
       try clear c6
       try clear c6b0
       try clear p6
       try clear c7
       try clear p2
       try clear p6
       obtain ⟨x12_3, rfl, HA, HK3, ⟨m3, rfl⟩⟩ := hrel
       cases gk with
       | zero => exact absurd HA.out (by simp [wherryref01_read.l1])
       | succ k3 =>
        have H := HA.out
        clear HA
        simp only [wherryref01_read.l1] at H
        by_cases c9 : x12_3 < (l0.length : Int)
        ·rw [if_pos c9] at H
         have c9b0 : decide (x12_3 < (l0.length : Int)) = true := decide_eq_true c9
         clear c9
         by_cases c10 : 0 ≤ x12_3
         ·rw [if_pos c10] at H
          have c10b0 : decide (0 ≤ x12_3) = true := decide_eq_true c10
          clear c10
          by_cases c11 : (rd l0 x12_3) = x11_1
          ·rw [if_pos c11] at H
           have c11b0 : ((rd l0 x12_3) == x11_1) = true := beq_iff_eq.mpr c11
           have c11b1 : ((rd l0 x12_3) != x11_1) = false := bne_eq_false_iff_eq.mpr c11
           clear c11
           by_cases c12 : x12_3 < (l1.length : Int)
           ·rw [if_pos c12] at H
            have c12b0 : decide (x12_3 < (l1.length : Int)) = true := decide_eq_true c12
            clear c12
            by_cases c13 : (rd l1 x12_3) = (wrap64 ((wrap64 (2 * x10_1)) + t242))
            ·rw [if_pos c13] at H
             have c13b0 : ((rd l1 x12_3) == (wrap64 ((wrap64 (2 * x10_1)) + t242))) = true := beq_iff_eq.mpr c13
             have c13b1 : ((rd l1 x12_3) != (wrap64 ((wrap64 (2 * x10_1)) + t242))) = false := bne_eq_false_iff_eq.mpr c13
             clear c13
             simp only [Option.some.injEq, Prod.mk.injEq] at H
             obtain ⟨rfl, rfl⟩ := H
             have p243 : 0 ≤ (x12_3 : Int) := of_decide_eq_true (by first | (with_reducible assumption) | assumption)
             have q243 : x12_3 < (l0.length : Int) := of_decide_eq_true (by first | (with_reducible assumption) | assumption)
             obtain ⟨ad243, e243, hx243_0⟩ := Kd.at_int HR0.out x12_3 p243 q243
             cases e243
             replace p243 := eq_true p243
             replace q243 := eq_true q243
             have p244 : 0 ≤ (x12_3 : Int) := of_decide_eq_true (by first | (with_reducible assumption) | assumption)
             have q244 : x12_3 < (l1.length : Int) := of_decide_eq_true (by first | (with_reducible assumption) | assumption)
             obtain ⟨ad244, e244, hx244_0⟩ := Kd.at_int HR1.out x12_3 p244 q244
             cases e244
             replace p244 := eq_true p244
             replace q244 := eq_true q244
             go_wp2
             go_ret2
             exact ⟨by first | rfl | (simp; done) | (simp [*]; done), by repeat (first | exact Drawn0.refl _ | apply Drawn0.step)⟩
            ·rw [if_neg c13] at H
             have c13b0 : ((rd l1 x12_3) == (wrap64 ((wrap64 (2 * x10_1)) + t242))) = false := beq_eq_false_iff_ne.mpr c13
             have c13b1 : ((rd l1 x12_3) != (wrap64 ((wrap64 (2 * x10_1)) + t242))) = true := bne_iff_ne.mpr c13
             have H' := Aside0.mk H
             clear H
             have p243 : 0 ≤ (x12_3 : Int) := of_decide_eq_true (by first | (with_reducible assumption) | assumption)
             have q243 : x12_3 < (l0.length : Int) := of_decide_eq_true (by first | (with_reducible assumption) | assumption)
             obtain ⟨ad243, e243, hx243_0⟩ := Kd.at_int HR0.out x12_3 p243 q243
             cases e243
             replace p243 := eq_true p243
             replace q243 := eq_true q243
             have p244 : 0 ≤ (x12_3 : Int) := of_decide_eq_true (by first | (with_reducible assumption) | assumption)
             have q244 : x12_3 < (l1.length : Int) := of_decide_eq_true (by first | (with_reducible assumption) | assumption)
             obtain ⟨ad244, e244, hx244_0⟩ := Kd.at_int HR1.out x12_3 p244 q244
             cases e244
             replace p244 := eq_true p244
             replace q244 := eq_true q244
             go_wp2
             go_roundg k3
             case measure => have := HK1.out; have := HJ4.out; have := HK3.out; omega
             case rel => exact ⟨(wrap64 (x12_3 + 1)), (by first | rfl | (simp; done) | (simp [*]; done)), H', ⟨by have := HK1.out; have := HJ4.out; have := HK3.out; omega⟩, by repeat (first | exact Drawn0.refl _ | apply Drawn0.step)⟩
           ·rw [if_neg c12] at H
            exact absurd H (by simp)
          ·rw [if_neg c11] at H
           have c11b0 : ((rd l0 x12_3) == x11_1) = false := beq_eq_false_iff_ne.mpr c11
           have c11b1 : ((rd l0 x12_3) != x11_1) = true := bne_iff_ne.mpr c11
           have H' := Aside0.mk H
           clear H
           have p243 : 0 ≤ (x12_3 : Int) := of_decide_eq_true (by first | (with_reducible assumption) | assumption)
           have q243 : x12_3 < (l0.length : Int) := of_decide_eq_true (by first | (with_reducible assumption) | assumption)
           obtain ⟨ad243, e243, hx243_0⟩ := Kd.at_int HR0.out x12_3 p243 q243
           cases e243
           replace p243 := eq_true p243
           replace q243 := eq_true q243
           go_wp2
           go_roundg k3
           case measure => have := HK1.out; have := HJ4.out; have := HK3.out; omega
           case rel => exact ⟨(wrap64 (x12_3 + 1)), (by first | rfl | (simp; done) | (simp [*]; done)), H', ⟨by have := HK1.out; have := HJ4.out; have := HK3.out; omega⟩, by repeat (first | exact Drawn0.refl _ | apply Drawn0.step)⟩
         ·rw [if_neg c10] at H
          exact absurd H (by simp)
        ·rw [if_neg c9] at H
         have c9b0 : decide (x12_3 < (l0.length : Int)) = false := decide_eq_false c9
         clear c9
         have H' := Aside0.mk H
         clear H
         go_wp2
         go_roundg k3
         case measure => have := HK1.out; have := HJ4.out; have := HK3.out; omega
         case rel => exact ⟨((wrap64 ((wrap64 (2 * x10_1)) + t242))), (wrap64 (x11_1 + 1)), (by first | rfl | (simp; done) | (simp [*]; done)), (by first | rfl | (simp; done) | (simp [*]; done)), H', ⟨by have := HK1.out; have := HJ4.out; have := HK3.out; omega⟩, by repeat (first | exact Drawn0.refl _ | apply Drawn0.step)⟩
     ·replace c7 := Bool.eq_false_iff.mpr c7
      subst c7
      have H1 : (some ((-1), 0)) = some (r1, r2) := by rw [if_neg (show ¬ (false = true) by decide)] at H; exact H
      clear H
      have H := H1
      clear H1
      simp only [Option.some.injEq, Prod.mk.injEq] at H
      obtain ⟨rfl, rfl⟩ := H
      go_wp2
      go_ret2
      exact ⟨by first | rfl | (simp; done) | (simp [*]; done), by repeat (first | exact Drawn0.refl _ | apply Drawn0.step)⟩

/-! ### wherryref01_reader_sym: function 73 (by hand) -/
/-- A symbol, by its lengths and codes. -/
def symR (l c b : List Int) (p : Int) : Option (Int × Int) := (wherryref01_read.f 6000 l c b p).bind fun r => if 0 ≤ r.1 then some r else none
set_option maxHeartbeats 8000000 in
set_option maxRecDepth 100000 in
theorem rr_sym (g : Nat) (b : List Int) (most pos v q : Int) (out : List Int) (Al : Option Addr) (cl : Nat) (l : List Int) (Ac : Option Addr) (cc : Nat) (c : List Int) (w0 w : World) (hR : RdrR w0 w g b most pos out) (hB : Below w0.heap.size w0 w)
  (hl : Kd.C (Kd.int .i64) w Al l.length l) (hcl : l.length ≤ cl) (hx : Kd.C (Kd.int .i64) w Ac c.length c) (hcc : c.length ≤ cc) (h : symR l c b pos = some (v, q)) :
  Calls Try.prog 73 #[.pointer (some ⟨g, 0, none⟩), .slice Al l.length cl, .slice Ac c.length cc] w fun r w' => r = .returned (.int .i64 v) ∧ RdrR w0 w' g b most q out ∧ Below w0.heap.size w0 w' ∧ KeepR w w' := by
 obtain ⟨A0, c0, A3, c3, hg, hge, hb, hc, ho⟩ := hR.cells
 unfold symR at h
 obtain ⟨⟨r1, r2⟩, hr, h2⟩ := Option.bind_eq_some_iff.1 h
 by_cases hv : 0 ≤ r1
 rotate_left
 ·rw [if_neg hv] at h2; cases h2
 rw [if_pos hv] at h2
 injection h2 with h2
 injection h2 with h2 h3
 subst h2 h3
 have HG := Aside0.mk hg
 have HB := Aside0.mk hB
 have HC := Aside0.mk hb
 have HO := Aside0.mk ho
 have HX := Aside0.mk hr
 have HL := Aside0.mk hl
 have HCC := Aside0.mk hx
 have hcz0 : w.cell? ⟨g, 0, none⟩ = some (.slice A0 b.length c0) := (blk_cell HG.out 0).trans rfl
 have hcz1 : w.cell? ⟨g, 1, none⟩ = some (.int .i64 pos) := (blk_cell HG.out 1).trans rfl
 have hcz2 : w.cell? ⟨g, 2, none⟩ = some (.int .i64 0) := (blk_cell HG.out 2).trans rfl
 have d1 : decide (r1 < 0) = false := decide_eq_false (by omega)
 clear hg hB hb ho hR h hr hl hx hv
 go_enter Try.func73, Try.ntmps73
 go_upto_region 3 with fail
 refine start_ (n := 16) (S := fun w' => w'.cell? ⟨g, 0, none⟩ = some (.slice A0 b.length c0) ∧ w'.cell? ⟨g, 1, none⟩ = some (.int .i64 pos)) (ds := [10]) #[false, false, false, false, false, false, false, false, false, false, false, false, false, false, false, false] (by kernel_rfl) rfl rfl ⟨hcz0, hcz1⟩ (fun hHeld => ?_)
 refine pure_ (i := 0) (N := some 15) (v := ?_) (a' := ?_) #[true, false, false, false, false, false, false, false, false, false, false, false, false, false, false, false] rfl rfl (by kernel_rfl) (fun _ _ _ h => h) (Or.inl ⟨by rfl, ?_⟩) ?_ ?_; rotate_left; (intro w'; go_simp; with_reducible rfl); rotate_left; (simp only [Act.put, setIfInBounds_toArray, set_cons_zero, set_cons_succ, i64_w, i32_w]; rfl)
 refine pure_ (i := 1) (N := some 16) (v := ?_) (a' := ?_) #[true, true, false, false, false, false, false, false, false, false, false, false, false, false, false, false] rfl rfl (by kernel_rfl) (fun _ _ _ h => h) (Or.inl ⟨by rfl, ?_⟩) ?_ ?_; rotate_left; (intro w'; go_simp; with_reducible rfl); rotate_left; (simp only [Act.put, setIfInBounds_toArray, set_cons_zero, set_cons_succ, i64_w, i32_w]; rfl)
 refine pure_ (i := 2) (N := some 17) (v := ?_) (a' := ?_) #[true, true, true, false, false, false, false, false, false, false, false, false, false, false, false, false] rfl rfl (by kernel_rfl) (fun _ _ _ h => h) (Or.inl ⟨by rfl, ?_⟩) ?_ ?_; rotate_left; (intro w'; go_simp; with_reducible rfl); rotate_left; (simp only [Act.put, setIfInBounds_toArray, set_cons_zero, set_cons_succ, i64_w, i32_w]; rfl)
 refine pure_ (i := 3) (N := some 18) (v := ?_) (a' := ?_) #[true, true, true, true, false, false, false, false, false, false, false, false, false, false, false, false] rfl rfl (by kernel_rfl) (fun _ _ _ h => h) (Or.inl ⟨by rfl, ?_⟩) ?_ ?_; rotate_left; (intro w'; go_simp; with_reducible rfl); rotate_left; (simp only [Act.put, setIfInBounds_toArray, set_cons_zero, set_cons_succ, i64_w, i32_w]; rfl)
 refine pure_ (i := 4) (N := some 19) (v := ?_) (a' := ?_) #[true, true, true, true, true, false, false, false, false, false, false, false, false, false, false, false] rfl rfl (by kernel_rfl) (fun _ _ _ h => h) (Or.inl ⟨by rfl, ?_⟩) ?_ ?_; rotate_left; (intro w'; go_simp; with_reducible rfl); rotate_left; (simp only [Act.put, setIfInBounds_toArray, set_cons_zero, set_cons_succ, i64_w, i32_w]; rfl)
 refine pure_ (i := 6) (N := some 21) (v := ?_) (a' := ?_) #[true, true, true, true, true, false, true, false, false, false, false, false, false, false, false, false] rfl rfl (by kernel_rfl) (fun _ _ _ h => h) (Or.inl ⟨by rfl, ?_⟩) ?_ ?_; rotate_left; (intro w'; go_simp; with_reducible rfl); rotate_left; (simp only [Act.put, setIfInBounds_toArray, set_cons_zero, set_cons_succ, i64_w, i32_w]; rfl)
 refine pure_ (i := 7) (N := some 22) (v := ?_) (a' := ?_) #[true, true, true, true, true, false, true, true, false, false, false, false, false, false, false, false] rfl rfl (by kernel_rfl) (fun _ _ _ h => h) (Or.inl ⟨by rfl, ?_⟩) ?_ ?_; rotate_left; (intro w'; go_simp; with_reducible rfl); rotate_left; (simp only [Act.put, setIfInBounds_toArray, set_cons_zero, set_cons_succ, i64_w, i32_w]; rfl)
 refine pure_ (i := 8) (N := some 23) (v := ?_) (a' := ?_) #[true, true, true, true, true, false, true, true, true, false, false, false, false, false, false, false] rfl rfl (by kernel_rfl) (fun _ _ _ h => h) (Or.inl ⟨by rfl, ?_⟩) ?_ ?_; rotate_left; (intro w'; go_simp; with_reducible rfl); rotate_left; (simp only [Act.put, setIfInBounds_toArray, set_cons_zero, set_cons_succ, i64_w, i32_w]; rfl)
 refine take_ (i := 5) (N := some 20) (v := ?_) (a' := ?_) #[true, true, true, true, true, true, true, true, true, false, false, false, false, false, false, false] rfl rfl (by kernel_rfl) (fun _ _ _ h => h) (Or.inl ⟨by rfl, ?_⟩) hHeld ?_ ?_; rotate_left; (rintro w' ⟨s0, s1⟩; go_simp; with_reducible rfl); rotate_left; (simp only [Act.put, setIfInBounds_toArray, set_cons_zero, set_cons_succ, i64_w, i32_w]; rfl)
 refine take_ (i := 9) (N := some 24) (v := ?_) (a' := ?_) #[true, true, true, true, true, true, true, true, true, true, false, false, false, false, false, false] rfl rfl (by kernel_rfl) (fun _ _ _ h => h) (Or.inl ⟨by rfl, ?_⟩) hHeld ?_ ?_; rotate_left; (rintro w' ⟨s0, s1⟩; go_simp; with_reducible rfl); rotate_left; (simp only [Act.put, setIfInBounds_toArray, set_cons_zero, set_cons_succ, i64_w, i32_w]; rfl)
 refine last_ (i := 10) (N := some 25) #[true, true, true, true, true, true, true, true, true, true, true, false, false, false, false, false] rfl rfl (by kernel_rfl) (by decide) (fun K hK => ?_)
 refine goes_ Try.func97 (by kernel_rfl) rfl #[.slice Al l.length cl, .slice Ac c.length cc, .slice A0 b.length c0, .int .i64 pos] (by rfl) rfl rfl (by simp only [List.map_toArray, List.map_cons, List.map_nil]; rfl) ?_
 with_reducible refine (wherryref01_read.calls 6000 _ _ l _ _ c _ _ b pos r1 r2 w.drew (Kd.C_below HL.out (Below.refl _ _).drew) hcl (Kd.C_below HCC.out (Below.refl _ _).drew) hcc (Kd.C_below HC.out HB.out.drew) hc HX.out).mono ?_
 rintro e w1 ⟨rfl, hd⟩
 refine ⟨_, rfl, ?_⟩
 have HD := Aside0.mk hd
 clear hd
 refine hK.out _ _ ?_
 clear hK K
 refine norm_ (a' := ?_) ?_ ?_
 rotate_left
 ·show Act.put _ (some 25) _ = _
  simp only [Act.put, setIfInBounds_toArray, set_cons_zero, set_cons_succ, i64_w, i32_w]
  rfl
 refine pure_ (i := 11) (N := some 14) (v := ?_) (a' := ?_) #[true, true, true, true, true, true, true, true, true, true, true, true, false, false, false, false] rfl rfl (by kernel_rfl) (fun _ _ _ h => h) (Or.inl ⟨by rfl, ?_⟩) ?_ ?_; rotate_left; (intro w'; go_simp; with_reducible rfl); rotate_left; (simp only [Act.put, setIfInBounds_toArray, set_cons_zero, set_cons_succ, i64_w, i32_w]; rfl)
 refine pure_ (i := 12) (N := some 26) (v := ?_) (a' := ?_) #[true, true, true, true, true, true, true, true, true, true, true, true, true, false, false, false] rfl rfl (by kernel_rfl) (fun _ _ _ h => h) (Or.inl ⟨by rfl, ?_⟩) ?_ ?_; rotate_left; (intro w'; go_simp; with_reducible rfl); rotate_left; (simp only [Act.put, setIfInBounds_toArray, set_cons_zero, set_cons_succ, i64_w, i32_w]; rfl)
 refine pure_ (i := 13) (N := some 27) (v := ?_) (a' := ?_) #[true, true, true, true, true, true, true, true, true, true, true, true, true, true, false, false] rfl rfl (by kernel_rfl) (fun _ _ _ h => h) (Or.inl ⟨by rfl, ?_⟩) ?_ ?_; rotate_left; (intro w'; go_simp; with_reducible rfl); rotate_left; (simp only [Act.put, setIfInBounds_toArray, set_cons_zero, set_cons_succ, i64_w, i32_w]; rfl)
 refine pure_ (i := 14) (N := some 7) (v := ?_) (a' := ?_) #[true, true, true, true, true, true, true, true, true, true, true, true, true, true, true, false] rfl rfl (by kernel_rfl) (fun _ _ _ h => h) (Or.inl ⟨by rfl, ?_⟩) ?_ ?_; rotate_left; (intro w'; go_simp; with_reducible rfl); rotate_left; (simp only [Act.put, setIfInBounds_toArray, set_cons_zero, set_cons_succ, i64_w, i32_w]; rfl)
 refine pure_ (i := 15) (N := some 8) (v := ?_) (a' := ?_) #[true, true, true, true, true, true, true, true, true, true, true, true, true, true, true, true] rfl rfl (by kernel_rfl) (fun _ _ _ h => h) (Or.inl ⟨by rfl, ?_⟩) ?_ ?_; rotate_left; (intro w'; go_simp; with_reducible rfl); rotate_left; (simp only [Act.put, setIfInBounds_toArray, set_cons_zero, set_cons_succ, i64_w, i32_w]; rfl)
 refine done_ (by kernel_rfl) ?_
 have hb1 : Below w.heap.size w w1 := below_then (Below.refl _ _).drew (Nat.le_refl _) HD.out.below
 have HG1 := Aside0.mk ((hb1.block g (rheap_lt HG.out)).trans HG.out)
 have HB1 := Aside0.mk (below_then HB.out HB.out.size hb1)
 have HK1 := Aside0.mk (KeepR.of_below hb1)
 have HO1 := Aside0.mk (Kd.R_below HO.out hb1)
 have hfz := blk_frozen HG1.out 1
 have hczs : w1.cell? ⟨g, 1, none⟩ = some (.int .i64 pos) := (blk_cell HG1.out 1).trans rfl
 clear hcz0 hcz1 hcz2 hb1 HD HG
 go_wp2_with fail
 go_ret
 exact ⟨rfl, ⟨A0, c0, _, blk_put HG1.out 1 (.int .i64 r2) rfl, hge, HC.out, hc, RdrR.put HG1.out HO1.out 1 _⟩, HB1.out.setCell (p := ⟨g, 1, none⟩) hge _, HK1.out.trans (KeepR.put HG1.out 1 _)⟩

/-! ### wherryref01_reader_text: function 39 (by hand) -/
/-- A row of whole numbers stays where readers write. -/
theorem KeepR.row {w W : World} {base : Nat} {ok : Nat → Prop} {A : Option Addr} {n c : Nat} {xs : List Int} (h : Kd.R (Kd.int .i64) 3 w base ok (.slice A n c) xs) (hk : KeepR w W) : xs.length = n ∧ xs.length ≤ c ∧ Kd.C (Kd.int .i64) W A xs.length xs := by
 have h1 := Kd.R_move (w1 := W) (Kd.R_bound h) (fun k hkk => by
  obtain ⟨_, _, _, q, hq, cells, hc⟩ := hkk
  have hq3 : q = 3 := by simpa [Kd.int, Kd.scalar] using hq
  subst hq3
  rw [hc]
  exact hk.2 k cells _ hc (by decide) (by decide))
 obtain ⟨A1, c1, e1⟩ := Kd.R_slice h1
 injection e1 with e1 e2 e3
 subst e1 e2 e3
 exact ⟨rfl, (Kd.R_reads' h1).2.1, (Kd.R_reads' h1).2.2⟩
/-- So many bytes from so far back. -/
def copyR (d : Nat) : Nat → List Int → List Int
 | 0, o => o
 | n + 1, o => copyR d n (o ++ [rd o ((o.length : Int) - (d : Int))])
/-- Symbols up to the end's. -/
def textR (l a d c b : List Int) (most : Int) : Nat → Int → List Int → Option (Int × List Int)
 | 0, _, _ => none
 | N + 1, p, out => (symR l a b p).bind fun s =>
   if s.1 = 256 then some (s.2, out)
   else if s.1 < 256 then (if (out.length : Int) + 1 ≤ most ∧ out.length ≤ 1000000 ∧ 0 ≤ s.1 then textR l a d c b most N s.2 (out ++ [s.1]) else none)
   else if s.1 ≤ 285 then (wherryref01_LenOf.f s.1).bind fun x => (getR b s.2 x.2.1).bind fun e => (symR d c b e.2).bind fun y =>
    if y.1 ≤ 29 then (wherryref01_DistOf.f y.1).bind fun z => (getR b y.2 z.2.1).bind fun f =>
     if 1 ≤ wrap64 (z.1 + f.1) ∧ wrap64 (z.1 + f.1) ≤ out.length ∧ 0 ≤ wrap64 (x.1 + e.1) ∧ wrap64 (x.1 + e.1) ≤ 1000 ∧ (out.length : Int) + wrap64 (x.1 + e.1) ≤ most ∧ out.length ≤ 900000 then textR l a d c b most N f.2 (copyR (wrap64 (z.1 + f.1)).toNat (wrap64 (x.1 + e.1)).toNat out) else none
    else none
   else none
set_option maxHeartbeats 8000000 in
set_option maxRecDepth 100000 in
theorem rr_text (g : Nat) (b : List Int) (most pos q : Int) (out out' : List Int) (Al : Option Addr) (cl : Nat) (l : List Int) (Ad : Option Addr) (cd : Nat) (d a c : List Int) (N : Nat) (w0 w : World) (hR : RdrR w0 w g b most pos out) (hB : Below w0.heap.size w0 w)
  (hl : ∀ W, KeepR w W → Kd.C (Kd.int .i64) W Al l.length l) (hcl : l.length ≤ cl) (hd : ∀ W, KeepR w W → Kd.C (Kd.int .i64) W Ad d.length d) (hcd : d.length ≤ cd) (ha : wherryref01_codes.f 8000 l = some a) (hc : wherryref01_codes.f 8000 d = some c) (h : textR l a d c b most N pos out = some (q, out')) :
  Calls Try.prog 39 #[.pointer (some ⟨g, 0, none⟩), .slice Al l.length cl, .slice Ad d.length cd] w fun r w' => r = .returned (.tuple #[]) ∧ RdrR w0 w' g b most q out' ∧ Below w0.heap.size w0 w' ∧ KeepR w w' := by
 have H := Aside0.mk h
 have HR := Aside0.mk hR
 have HB := Aside0.mk hB
 have HL := Aside0.mk hl
 have HD := Aside0.mk hd
 clear h hR hB hl hd
 go_enter Try.func39, Try.ntmps39
 go_wp2_with fail
 refine (wherryref01_codes.calls 8000 _ _ l a w (HL.out w (KeepR.refl _)) hcl ha).mono ?_
 rintro e w1 ⟨va, rfl, ho1, hb1⟩
 obtain ⟨Aa, ca, e1⟩ := Kd.R_slice ho1
 subst e1
 have HO1 := Aside0.mk ho1
 have HK1 := Aside0.mk (KeepR.of_below hb1)
 have HR1 := Aside0.mk (HR.out.below hb1)
 have HB1 := Aside0.mk (below_then HB.out HB.out.size hb1)
 clear ho1 hb1 HR HB ha
 go_wp2_with fail
 refine (wherryref01_codes.calls 8000 _ _ d c w1 (HD.out w1 HK1.out) hcd hc).mono ?_
 rintro e w2 ⟨vc, rfl, ho2, hb2⟩
 obtain ⟨Ac, cc, e2⟩ := Kd.R_slice ho2
 subst e2
 have HO2 := Aside0.mk ho2
 have HO1b := Aside0.mk (Kd.R_below HO1.out hb2)
 have HK2 := Aside0.mk (HK1.out.trans (KeepR.of_below hb2))
 have HR2 := Aside0.mk (HR1.out.below hb2)
 have HB2 := Aside0.mk (below_then HB1.out HB1.out.size hb2)
 clear ho2 hb2 HR1 HB1 HK1 hc HO1
 go_wp2_with fail
 go_loopg [] N (fun kq w' => ∃ (p : Int) (oi : List Int), Aside0 (textR l a d c b most kq p oi = some (q, out')) ∧ Aside0 (RdrR w0 w' g b most p oi) ∧ Aside0 (Below w0.heap.size w0 w') ∧ Aside0 (KeepR w2 w'))
 case atStart => exact ⟨pos, out, H, HR2, HB2, ⟨KeepR.refl _⟩⟩
 case round =>
  clear H HR2 HB2
  obtain ⟨p, oi, H, HR, HB, HK⟩ := hrel
  have h := H.out
  match gk, h with
  | 0, h => unfold textR at h; cases h
  | m + 1, h =>
   unfold textR at h
   obtain ⟨⟨s, p1⟩, hs, h⟩ := Option.bind_eq_some_iff.1 h
   obtain ⟨A0, c0, A3, c3, hg, hge, hb, hc, ho⟩ := HR.out.cells
   have hcz2 : wr.cell? ⟨g, 2, none⟩ = some (.int .i64 0) := (blk_cell hg 2).trans rfl
   have HS := Aside0.mk hs
   have H1 := Aside0.mk h
   clear hg hb ho hc hs h H
   go_wp2_with fail
   have rl := HL.out wr (HK2.out.trans HK.out)
   have ra := KeepR.row HO1b.out HK.out
   refine (rr_sym g b most p s p1 oi Al cl l Aa ca a w0 wr HR.out HB.out rl hcl ra.2.2 ra.2.1 HS.out).mono ?_
   rintro e w3 ⟨rfl, hR3, hB3, hK3⟩
   have HR3 := Aside0.mk hR3
   have HB3 := Aside0.mk hB3
   have HK3 := Aside0.mk (HK.out.trans hK3)
   clear hR3 hB3 hK3 HR HB HK hcz2 rl ra
   obtain ⟨A1, c1, A4, c4, hg, hge1, hb, hc, ho⟩ := HR3.out.cells
   have hcy2 : w3.cell? ⟨g, 2, none⟩ = some (.int .i64 0) := (blk_cell hg 2).trans rfl
   clear hg hb ho hc
   have h := H1.out
   by_cases hy : s = 256
   ·have d3 : (s == 256) = true := beq_iff_eq.2 hy
    rw [if_pos hy] at h
    injection h with h
    injection h with h h'
    subst h h'
    go_wp2_with fail
    ((try simp only [Exit.inBlock, Exit.then]); refine bodyPost_ret (results_none rfl _ _ _) rfl ?_)
    exact ⟨rfl, HR3.out, HB3.out, HK2.out.trans HK3.out⟩
   have d3 : (s == 256) = false := beq_eq_false_iff_ne.2 hy
   rw [if_neg hy] at h
   by_cases hlt : s < 256
   ·have d4 : decide (s < 256) = true := decide_eq_true hlt
    rw [if_pos hlt] at h
    by_cases hm : (oi.length : Int) + 1 ≤ most ∧ oi.length ≤ 1000000 ∧ 0 ≤ s
    rotate_left
    ·rw [if_neg hm] at h; cases h
    rw [if_pos hm] at h
    have HN := Aside0.mk h
    have HM := Aside0.mk hm
    have dx : IntKind.u8.wrap s = s := by simp only [IntKind.wrap, IntKind.signed, IntKind.bits]; simp; omega
    clear h hm H1 hy hlt HS
    go_wp2_with fail
    refine (rr_room g b most p1 1 oi w0 w3 HR3.out HB3.out HM.out.1 (by decide) HM.out.2.1).mono ?_
    rintro e w6 ⟨rfl, hR6, hB6, hK6⟩
    have HR6 := Aside0.mk hR6
    have HB6 := Aside0.mk hB6
    have HK6 := Aside0.mk (HK3.out.trans hK6)
    clear hR6 hB6 hK6 HR3 HB3 HK3 hcy2
    obtain ⟨A1, c1, A4, c4, hg2, hge2, hb2, hc2, ho2⟩ := HR6.out.cells
    have HG2 := Aside0.mk hg2
    have HOt := Aside0.mk ho2
    have HC2 := Aside0.mk hb2
    have hcz3 : w6.cell? ⟨g, 3, none⟩ = some (.slice A4 oi.length c4) := (blk_cell HG2.out 3).trans rfl
    have hfz3 := blk_frozen HG2.out 3
    clear hg2 hb2 ho2
    go_wp2_with ((with_reducible refine gate_builtin (b := .append) (xs := #[.tmp 48, .tmp 51]) rfl ?_); at_builtin; refine Kd.R_append (Kd.int .u8) (w0 := w0) w0.heap.size rfl (.tmp 48) (.tmp 51) 23 5 (.int .u8 0) 1 rfl Try.underlying23 info5 rfl (by decide) (by omega) (.slice A4 oi.length c4) oi s [.int .u8 s] (fun _ => True) (fun _ => False) rfl rfl rfl (fun _ hk => hk.elim) (fun _ _ => trivial) HOt.out HB6.out HB6.out.size (by have := HM.out.2.1; omega) ?_; intro v5 w7 ho hb hg hat; (obtain ⟨A5, c5, e5⟩ := Kd.R_slice ho); (subst e5); (have HN5 := Aside0.mk (And.intro ho (And.intro hb hg))); (have hcz7 : w7.cell? ⟨g, 3, none⟩ = some (.slice A4 oi.length c4) := (blk_cell (blk_grown HG2.out hg (Kd.R_ne HOt.out HG2.out (by decide))) 3).trans rfl); (have hfz7 : w7.frozen? ⟨g, 3, none⟩ = false := blk_frozen (blk_grown HG2.out hg (Kd.R_ne HOt.out HG2.out (by decide))) 3); clear ho hb hg hat)
    obtain ⟨ho, hb, hgr⟩ := HN5.out
    have HG5 := blk_grown HG2.out hgr (Kd.R_ne HOt.out HG2.out (by decide))
    have ho2 : Kd.R (Kd.int .u8) 5 w7 w0.heap.size (fun _ => True) (.slice A5 (oi.length + 1) c5) (oi ++ [s]) := by
     have e : oi.length + 1 = (oi ++ [s]).length := by simp
     rw [e]
     exact ho
    have HRn := Aside0.mk (show RdrR w0 (w7.setCell ⟨g, 3, none⟩ (.slice A5 (oi.length + 1) c5)) g b most p1 (oi ++ [s]) from ⟨A1, c1, _, blk_put HG5 3 _ rfl, hge2, HC2.out, hc2, RdrR.put HG5 ho2 3 _⟩)
    have HBn := Aside0.mk (hb.setCell (p := ⟨g, 3, none⟩) hge2 (.slice A5 (oi.length + 1) c5))
    have HKn := Aside0.mk ((HK6.out.trans (KeepR.grown hgr fun r hr => own_typed (Kd.own_of_R HOt.out) r hr)).trans (KeepR.put HG5 3 (.slice A5 (oi.length + 1) c5)))
    clear ho2 HG5 ho hb hgr HN5 hcz3 hfz3 hcz7 hfz7 HR6 HB6 HK6 HG2 HOt HC2
    go_wp2_with fail
    go_roundg m
    case measure => omega
    case rel => exact ⟨p1, oi ++ [s], HN, HRn, HBn, HKn⟩
   ·have d4 : decide (s < 256) = false := decide_eq_false hlt
    rw [if_neg hlt] at h
    by_cases h285 : s ≤ 285
    rotate_left
    ·rw [if_neg h285] at h; cases h
    rw [if_pos h285] at h
    have d5 : decide (285 < s) = false := decide_eq_false (by omega)
    obtain ⟨⟨x1, x2, x3⟩, hx, h⟩ := Option.bind_eq_some_iff.1 h
    obtain ⟨⟨e1, p2⟩, he, h⟩ := Option.bind_eq_some_iff.1 h
    obtain ⟨⟨y, p3⟩, hy2, h⟩ := Option.bind_eq_some_iff.1 h
    by_cases h29 : y ≤ 29
    rotate_left
    ·rw [if_neg h29] at h; cases h
    rw [if_pos h29] at h
    obtain ⟨⟨z1, z2, z3⟩, hz, h⟩ := Option.bind_eq_some_iff.1 h
    obtain ⟨⟨f1, p4⟩, hf, h⟩ := Option.bind_eq_some_iff.1 h
    simp only at hx he hy2 hz hf h
    by_cases hg4 : 1 ≤ wrap64 (z1 + f1) ∧ wrap64 (z1 + f1) ≤ oi.length ∧ 0 ≤ wrap64 (x1 + e1) ∧ wrap64 (x1 + e1) ≤ 1000 ∧ (oi.length : Int) + wrap64 (x1 + e1) ≤ most ∧ oi.length ≤ 900000
    rotate_left
    ·rw [if_neg hg4] at h; cases h
    rw [if_pos hg4] at h
    obtain ⟨gd1, gd2, gn0, gn1, gm, gl⟩ := hg4
    obtain ⟨nn, hnn⟩ : ∃ nn : Nat, wrap64 (x1 + e1) = (nn : Int) := ⟨(wrap64 (x1 + e1)).toNat, by omega⟩
    obtain ⟨dd, hdd⟩ : ∃ dd : Nat, wrap64 (z1 + f1) = (dd : Int) := ⟨(wrap64 (z1 + f1)).toNat, by omega⟩
    rw [hnn] at gn0 gn1 gm h
    rw [hdd] at gd1 gd2 h
    rw [Int.toNat_natCast, Int.toNat_natCast] at h
    have d6 : decide (29 < y) = false := decide_eq_false (by omega)
    have d7 : decide ((oi.length : Int) < (dd : Int)) = false := decide_eq_false (by omega)
    have d7b : decide (oi.length < dd) = false := decide_eq_false (by omega)
    have HX := Aside0.mk hx
    have HE := Aside0.mk he
    have HY := Aside0.mk hy2
    have HZ := Aside0.mk hz
    have HF := Aside0.mk hf
    have HNx := Aside0.mk h
    clear h hx he hy2 hz hf h29 h285 hlt hy H1 HS
    go_wp2_with fail
    refine (wherryref01_LenOf.calls s x1 x2 x3 w3 HX.out).mono ?_
    rintro e w4 ⟨rfl, hd4⟩
    have hb4 : Below w3.heap.size w3 w4 := hd4.below
    have HR4 := Aside0.mk (HR3.out.below hb4)
    have HB4 := Aside0.mk (below_then HB3.out HB3.out.size hb4)
    have HK4 := Aside0.mk (HK3.out.trans (KeepR.of_below hb4))
    clear hd4 hb4 HR3 HB3 HK3 hcy2 HX
    go_wp2_with fail
    refine (rr_get g b most p1 x2 e1 p2 oi w0 w4 HR4.out HB4.out HE.out).mono ?_
    rintro e w5 ⟨rfl, hR5, hB5, hK5⟩
    have HR5 := Aside0.mk hR5
    have HB5 := Aside0.mk hB5
    have HK5 := Aside0.mk (HK4.out.trans hK5)
    clear hR5 hB5 hK5 HR4 HB4 HK4 HE
    go_wp2_with fail
    have rd := HD.out w5 (HK2.out.trans HK5.out)
    have rc := KeepR.row HO2.out HK5.out
    refine (rr_sym g b most p2 y p3 oi Ad cd d Ac cc c w0 w5 HR5.out HB5.out rd hcd rc.2.2 rc.2.1 HY.out).mono ?_
    rintro e w6 ⟨rfl, hR6, hB6, hK6⟩
    have HR6 := Aside0.mk hR6
    have HB6 := Aside0.mk hB6
    have HK6 := Aside0.mk (HK5.out.trans hK6)
    clear hR6 hB6 hK6 HR5 HB5 HK5 rd rc HY
    obtain ⟨A1, c1, A4, c4, hg, hge1, hb, hc, ho⟩ := HR6.out.cells
    have hcy2 : w6.cell? ⟨g, 2, none⟩ = some (.int .i64 0) := (blk_cell hg 2).trans rfl
    clear hg hb ho hc
    go_wp2_with fail
    refine (wherryref01_DistOf.calls y z1 z2 z3 w6 HZ.out).mono ?_
    rintro e w7 ⟨rfl, hd7⟩
    have hb7 : Below w6.heap.size w6 w7 := hd7.below
    have HR7 := Aside0.mk (HR6.out.below hb7)
    have HB7 := Aside0.mk (below_then HB6.out HB6.out.size hb7)
    have HK7 := Aside0.mk (HK6.out.trans (KeepR.of_below hb7))
    clear hd7 hb7 HR6 HB6 HK6 hcy2 HZ
    go_wp2_with fail
    refine (rr_get g b most p3 z2 f1 p4 oi w0 w7 HR7.out HB7.out HF.out).mono ?_
    rintro e w8 ⟨rfl, hR8, hB8, hK8⟩
    have HR8 := Aside0.mk hR8
    have HB8 := Aside0.mk hB8
    have HK8 := Aside0.mk (HK7.out.trans hK8)
    clear hR8 hB8 hK8 HR7 HB7 HK7 HF
    obtain ⟨A1, c1, A4, c4, hg, hge1, hb, hc, ho⟩ := HR8.out.cells
    have hcy2 : w8.cell? ⟨g, 2, none⟩ = some (.int .i64 0) := (blk_cell hg 2).trans rfl
    have hcy3 : w8.cell? ⟨g, 3, none⟩ = some (.slice A4 oi.length c4) := (blk_cell hg 3).trans rfl
    clear hg hb ho hc
    go_wp2_with fail
    refine (rr_room g b most p4 (nn : Int) oi w0 w8 HR8.out HB8.out gm ⟨by omega, by omega⟩ (by omega)).mono ?_
    rintro e w9 ⟨rfl, hR9, hB9, hK9⟩
    have HR9 := Aside0.mk hR9
    have HB9 := Aside0.mk hB9
    have HK9 := Aside0.mk (HK8.out.trans hK9)
    clear hR9 hB9 hK9 HR8 HB8 HK8 hcy2 hcy3
    go_wp2_with fail
    go_loopg [17] nn (fun kq v17 w' => ∃ (i : Nat) (oj : List Int), v17 = .int .i64 i ∧ i ≤ nn ∧ Aside0 (kq + i = nn) ∧ Aside0 (oj.length = oi.length + i) ∧ Aside0 (copyR dd (nn - i) oj = copyR dd nn oi) ∧ Aside0 (RdrR w0 w' g b most p4 oj) ∧ Aside0 (Below w0.heap.size w0 w') ∧ Aside0 (KeepR w2 w'))
    case atStart => exact ⟨0, oi, rfl, Nat.zero_le _, ⟨rfl⟩, ⟨rfl⟩, ⟨rfl⟩, HR9, HB9, HK9⟩
    case round =>
     clear HR9 HB9 HK9
     obtain ⟨i, oj, rfl, hi, HQ, HLn, HCp, HR, HB, HK⟩ := hrel
     by_cases hlt : i < nn
     rotate_left
     ·obtain rfl : i = nn := by omega
      have dl : decide ((i : Int) < (i : Int)) = false := decide_eq_false (by omega)
      have HNy : Aside0 (textR l a d c b most m p4 oj = some (q, out')) := ⟨by
       have h1 := HCp.out
       rw [Nat.sub_self] at h1
       rw [show copyR dd 0 oj = oj from rfl] at h1
       rw [h1]
       exact HNx.out⟩
      go_wp2_with fail
      go_roundg m
      case measure => omega
      case rel => exact ⟨p4, oj, HNy, HR, HB, HK⟩
     ·have dl : decide ((i : Int) < (nn : Int)) = true := decide_eq_true (by omega)
      have hol := HLn.out
      obtain ⟨A0, c0, A3, c3, hg, hge, hb, hc, ho⟩ := HR.out.cells
      obtain ⟨k, hk⟩ : ∃ k, k = oj.length - dd := ⟨_, rfl⟩
      have hkl : k < oj.length := by omega
      obtain ⟨ad, e3, hcell⟩ := Kd.at_int (Kd.R_reads' ho).2.2 (k : Int) (by omega) (by omega)
      subst e3
      rw [Int.toNat_natCast] at hcell
      obtain ⟨x, hx⟩ : ∃ x, x = rd oj (k : Int) := ⟨_, rfl⟩
      rw [← hx] at hcell
      have hidx : wrap64 ((oj.length : Int) - (dd : Int)) = (k : Int) := by unfold wrap64; omega
      have hidx2 : IntKind.i64.wrap ((oj.length : Int) - (dd : Int)) = (k : Int) := by rw [i64_w]; exact hidx
      have hk0 : (0 : Int) ≤ (k : Int) := by omega
      have hk1 : (k : Int) < (oj.length : Int) := by omega
      have hkl2 : k < oj.length := hkl
      have HG := Aside0.mk hg
      have HO := Aside0.mk ho
      have HC0 := Aside0.mk hb
      have HX := Aside0.mk hx
      have hcz3 : wr.cell? ⟨g, 3, none⟩ = some (.slice (some ad) oj.length c3) := (blk_cell HG.out 3).trans rfl
      have hcz3a : (wr.alloc (.cells #[.int .u8 x] 5)).cell? ⟨g, 3, none⟩ = some (.slice (some ad) oj.length c3) := pw_cell_below (below_alloc (Below.refl _ _) _) hcz3
      have hcella : (wr.alloc (.cells #[.int .u8 x] 5)).cell? (ad.add k) = some (.int .u8 x) := pw_cell_below (below_alloc (Below.refl _ _) _) hcell
      have HOL := Aside0.mk (show oj.length ≤ 1000000 by omega)
      have HKk := Aside0.mk (And.intro hk hkl)
      clear hg ho hb hx hk hkl hol
      go_upto_region 22 with fail
      refine start_ (n := 23) (S := fun w' => w'.cell? ⟨g, 3, none⟩ = some (.slice (some ad) oj.length c3) ∧ w'.cell? (ad.add k) = some (.int .u8 x)) (ds := [19, 22]) #[false, false, false, false, false, false, false, false, false, false, false, false, false, false, false, false, false, false, false, false, false, false, false] (by kernel_rfl) rfl rfl ⟨hcz3, hcell⟩ (fun hHeld => ?_)
      refine pure_ (i := 0) (N := some 120) (v := ?_) (a' := ?_) #[true, false, false, false, false, false, false, false, false, false, false, false, false, false, false, false, false, false, false, false, false, false, false] rfl rfl (by kernel_rfl) (fun _ _ _ h => h) (Or.inl ⟨by rfl, ?_⟩) ?_ ?_; rotate_left; (intro w'; go_simp; with_reducible rfl); rotate_left; (simp only [Act.put, setIfInBounds_toArray, set_cons_zero, set_cons_succ, i64_w, i32_w]; rfl)
      refine pure_ (i := 1) (N := some 121) (v := ?_) (a' := ?_) #[true, true, false, false, false, false, false, false, false, false, false, false, false, false, false, false, false, false, false, false, false, false, false] rfl rfl (by kernel_rfl) (fun _ _ _ h => h) (Or.inl ⟨by rfl, ?_⟩) ?_ ?_; rotate_left; (intro w'; go_simp; with_reducible rfl); rotate_left; (simp only [Act.put, setIfInBounds_toArray, set_cons_zero, set_cons_succ, i64_w, i32_w]; rfl)
      refine pure_ (i := 2) (N := some 122) (v := ?_) (a' := ?_) #[true, true, true, false, false, false, false, false, false, false, false, false, false, false, false, false, false, false, false, false, false, false, false] rfl rfl (by kernel_rfl) (fun _ _ _ h => h) (Or.inl ⟨by rfl, ?_⟩) ?_ ?_; rotate_left; (intro w'; go_simp; with_reducible rfl); rotate_left; (simp only [Act.put, setIfInBounds_toArray, set_cons_zero, set_cons_succ, i64_w, i32_w]; rfl)
      refine pure_ (i := 3) (N := some 123) (v := ?_) (a' := ?_) #[true, true, true, true, false, false, false, false, false, false, false, false, false, false, false, false, false, false, false, false, false, false, false] rfl rfl (by kernel_rfl) (fun _ _ _ h => h) (Or.inl ⟨by rfl, ?_⟩) ?_ ?_; rotate_left; (intro w'; go_simp; with_reducible rfl); rotate_left; (simp only [Act.put, setIfInBounds_toArray, set_cons_zero, set_cons_succ, i64_w, i32_w]; rfl)
      refine pure_ (i := 5) (N := some 125) (v := ?_) (a' := ?_) #[true, true, true, true, false, true, false, false, false, false, false, false, false, false, false, false, false, false, false, false, false, false, false] rfl rfl (by kernel_rfl) (fun _ _ _ h => h) (Or.inl ⟨by rfl, ?_⟩) ?_ ?_; rotate_left; (intro w'; go_simp; with_reducible rfl); rotate_left; (simp only [Act.put, setIfInBounds_toArray, set_cons_zero, set_cons_succ, i64_w, i32_w]; rfl)
      refine pure_ (i := 6) (N := some 126) (v := ?_) (a' := ?_) #[true, true, true, true, false, true, true, false, false, false, false, false, false, false, false, false, false, false, false, false, false, false, false] rfl rfl (by kernel_rfl) (fun _ _ _ h => h) (Or.inl ⟨by rfl, ?_⟩) ?_ ?_; rotate_left; (intro w'; go_simp; with_reducible rfl); rotate_left; (simp only [Act.put, setIfInBounds_toArray, set_cons_zero, set_cons_succ, i64_w, i32_w]; rfl)
      refine pure_ (i := 7) (N := some 127) (v := ?_) (a' := ?_) #[true, true, true, true, false, true, true, true, false, false, false, false, false, false, false, false, false, false, false, false, false, false, false] rfl rfl (by kernel_rfl) (fun _ _ _ h => h) (Or.inl ⟨by rfl, ?_⟩) ?_ ?_; rotate_left; (intro w'; go_simp; with_reducible rfl); rotate_left; (simp only [Act.put, setIfInBounds_toArray, set_cons_zero, set_cons_succ, i64_w, i32_w]; rfl)
      refine pure_ (i := 9) (N := some 129) (v := ?_) (a' := ?_) #[true, true, true, true, false, true, true, true, false, true, false, false, false, false, false, false, false, false, false, false, false, false, false] rfl rfl (by kernel_rfl) (fun _ _ _ h => h) (Or.inl ⟨by rfl, ?_⟩) ?_ ?_; rotate_left; (intro w'; go_simp; with_reducible rfl); rotate_left; (simp only [Act.put, setIfInBounds_toArray, set_cons_zero, set_cons_succ, i64_w, i32_w]; rfl)
      refine pure_ (i := 10) (N := some 130) (v := ?_) (a' := ?_) #[true, true, true, true, false, true, true, true, false, true, true, false, false, false, false, false, false, false, false, false, false, false, false] rfl rfl (by kernel_rfl) (fun _ _ _ h => h) (Or.inl ⟨by rfl, ?_⟩) ?_ ?_; rotate_left; (intro w'; go_simp; with_reducible rfl); rotate_left; (simp only [Act.put, setIfInBounds_toArray, set_cons_zero, set_cons_succ, i64_w, i32_w]; rfl)
      refine pure_ (i := 11) (N := some 131) (v := ?_) (a' := ?_) #[true, true, true, true, false, true, true, true, false, true, true, true, false, false, false, false, false, false, false, false, false, false, false] rfl rfl (by kernel_rfl) (fun _ _ _ h => h) (Or.inl ⟨by rfl, ?_⟩) ?_ ?_; rotate_left; (intro w'; go_simp; with_reducible rfl); rotate_left; (simp only [Act.put, setIfInBounds_toArray, set_cons_zero, set_cons_succ, i64_w, i32_w]; rfl)
      refine pure_ (i := 14) (N := some 134) (v := ?_) (a' := ?_) #[true, true, true, true, false, true, true, true, false, true, true, true, false, false, true, false, false, false, false, false, false, false, false] rfl rfl (by kernel_rfl) (fun _ _ _ h => h) (Or.inl ⟨by rfl, ?_⟩) ?_ ?_; rotate_left; (intro w'; go_simp; with_reducible rfl); rotate_left; (simp only [Act.put, setIfInBounds_toArray, set_cons_zero, set_cons_succ, i64_w, i32_w]; rfl)
      refine take_ (i := 4) (N := some 124) (v := ?_) (a' := ?_) #[true, true, true, true, true, true, true, true, false, true, true, true, false, false, true, false, false, false, false, false, false, false, false] rfl rfl (by kernel_rfl) (fun _ _ _ h => h) (Or.inl ⟨by rfl, ?_⟩) hHeld ?_ ?_; rotate_left; (rintro w' ⟨s0, s1⟩; go_simp; with_reducible rfl); rotate_left; (simp only [Act.put, setIfInBounds_toArray, set_cons_zero, set_cons_succ, i64_w, i32_w]; rfl)
      refine take_ (i := 8) (N := some 128) (v := ?_) (a' := ?_) #[true, true, true, true, true, true, true, true, true, true, true, true, false, false, true, false, false, false, false, false, false, false, false] rfl rfl (by kernel_rfl) (fun _ _ _ h => h) (Or.inl ⟨by rfl, ?_⟩) hHeld ?_ ?_; rotate_left; (rintro w' ⟨s0, s1⟩; go_simp; with_reducible rfl); rotate_left; (simp only [Act.put, setIfInBounds_toArray, set_cons_zero, set_cons_succ, i64_w, i32_w]; rfl)
      refine take_ (i := 12) (N := some 132) (v := ?_) (a' := ?_) #[true, true, true, true, true, true, true, true, true, true, true, true, true, false, true, false, false, false, false, false, false, false, false] rfl rfl (by kernel_rfl) (fun _ _ _ h => h) (Or.inl ⟨by rfl, ?_⟩) hHeld ?_ ?_; rotate_left; (rintro w' ⟨s0, s1⟩; go_simp; with_reducible rfl); rotate_left; (simp only [Act.put, setIfInBounds_toArray, set_cons_zero, set_cons_succ, i64_w, i32_w]; rfl)
      refine pure_ (i := 13) (N := some 133) (v := ?_) (a' := ?_) #[true, true, true, true, true, true, true, true, true, true, true, true, true, true, true, false, false, false, false, false, false, false, false] rfl rfl (by kernel_rfl) (fun _ _ _ h => h) (Or.inl ⟨by rfl, ?_⟩) ?_ ?_; rotate_left; (intro w'; go_simp; with_reducible rfl); rotate_left; (simp only [Act.put, setIfInBounds_toArray, set_cons_zero, set_cons_succ, i64_w, i32_w]; rfl)
      refine pure_ (i := 15) (N := some 135) (v := ?_) (a' := ?_) #[true, true, true, true, true, true, true, true, true, true, true, true, true, true, true, true, false, false, false, false, false, false, false] rfl rfl (by kernel_rfl) (fun _ _ _ h => h) (Or.inl ⟨by rfl, ?_⟩) ?_ ?_; rotate_left; (intro w'; go_simp; with_reducible rfl); rotate_left; (simp only [Act.put, setIfInBounds_toArray, set_cons_zero, set_cons_succ, i64_w, i32_w]; rfl)
      refine pure_ (i := 16) (N := some 136) (v := ?_) (a' := ?_) #[true, true, true, true, true, true, true, true, true, true, true, true, true, true, true, true, true, false, false, false, false, false, false] rfl rfl (by kernel_rfl) (fun _ _ _ h => h) (Or.inl ⟨by rfl, ?_⟩) ?_ ?_; rotate_left; (intro w'; go_simp; with_reducible rfl); rotate_left; (simp only [Act.put, setIfInBounds_toArray, set_cons_zero, set_cons_succ, i64_w, i32_w]; rfl)
      refine take_ (i := 17) (N := some 137) (v := ?_) (a' := ?_) #[true, true, true, true, true, true, true, true, true, true, true, true, true, true, true, true, true, true, false, false, false, false, false] rfl rfl (by kernel_rfl) (fun _ _ _ h => h) (Or.inl ⟨by rfl, ?_⟩) hHeld ?_ ?_; rotate_left; (rintro w' ⟨s0, s1⟩; go_simp; with_reducible rfl); rotate_left; (simp only [Act.put, setIfInBounds_toArray, set_cons_zero, set_cons_succ, i64_w, i32_w]; rfl)
      refine one_ (i := 18) (N := some 138) #[true, true, true, true, true, true, true, true, true, true, true, true, true, true, true, true, true, true, true, false, false, false, false] rfl rfl (by kernel_rfl) (by decide) (fun K hK => ?_)
      refine value_ (w1 := ?_) (v := ?_) (by rfl) rfl ?_ ?_
      rotate_left 2
      ·go_simp
       constructor
       ·rfl
       ·rfl
      refine hK.out _ _ ⟨hcz3a, hcella⟩ (fun hHeld => ?_)
      clear hK K
      refine norm_ (a' := ?_) ?_ ?_
      rotate_left
      ·show Act.put _ (some 138) _ = _
       simp only [Act.put, setIfInBounds_toArray, set_cons_zero, set_cons_succ, i64_w, i32_w]
       rfl
      refine last_ (i := 19) (N := some 139) #[true, true, true, true, true, true, true, true, true, true, true, true, true, true, true, true, true, true, true, true, false, false, false] rfl rfl (by kernel_rfl) (by decide) (fun K hK => ?_)
      refine Kd.R_append_step (Kd.int .u8) (w0 := w0) w0.heap.size rfl (.tmp 124) (.tmp 138) 23 5 (.int .u8 0) 1 rfl Try.underlying23 info5 rfl (by decide) (by omega) (.slice (some ad) oj.length c3) oj x [.int .u8 x] (fun _ => True) (fun _ => False) rfl rfl rfl (fun _ hk => hk.elim) (fun _ _ => trivial) (Kd.R_drew HO.out) HB.out.drew HB.out.drew.size (by have := HOL.out; omega) ?_
      intro v5 w7 ho hb hg hat
      obtain ⟨A5, c5, e5⟩ := Kd.R_slice ho
      subst e5
      have HN5 := Aside0.mk (And.intro ho (And.intro hb hg))
      have hfz7 := blk_frozen (blk_grown (show wr.drew.heap[g]? = _ from HG.out) hg (Kd.R_ne HO.out HG.out (by decide))) 3
      have hcz7 := cell_grown hg (show wr.drew.cell? _ = some (.slice (some ad) oj.length c3) from hcz3) (Kd.R_ne HO.out HG.out (by decide))
      clear ho hb hg hat
      refine hK.out _ _ ?_
      clear hK K
      refine norm_ (a' := ?_) ?_ ?_
      rotate_left
      ·show Act.put _ (some 139) _ = _
       simp only [Act.put, setIfInBounds_toArray, set_cons_zero, set_cons_succ, i64_w, i32_w]
       rfl
      refine pure_ (i := 20) (N := some 140) (v := ?_) (a' := ?_) #[true, true, true, true, true, true, true, true, true, true, true, true, true, true, true, true, true, true, true, true, true, false, false] rfl rfl (by kernel_rfl) (fun _ _ _ h => h) (Or.inl ⟨by rfl, ?_⟩) ?_ ?_; rotate_left; (intro w'; go_simp; with_reducible rfl); rotate_left; (simp only [Act.put, setIfInBounds_toArray, set_cons_zero, set_cons_succ, i64_w, i32_w]; rfl)
      refine pure_ (i := 21) (N := some 141) (v := ?_) (a' := ?_) #[true, true, true, true, true, true, true, true, true, true, true, true, true, true, true, true, true, true, true, true, true, true, false] rfl rfl (by kernel_rfl) (fun _ _ _ h => h) (Or.inl ⟨by rfl, ?_⟩) ?_ ?_; rotate_left; (intro w'; go_simp; with_reducible rfl); rotate_left; (simp only [Act.put, setIfInBounds_toArray, set_cons_zero, set_cons_succ, i64_w, i32_w]; rfl)
      refine last_ (i := 22) (N := none) #[true, true, true, true, true, true, true, true, true, true, true, true, true, true, true, true, true, true, true, true, true, true, true] rfl rfl (by kernel_rfl) (by decide) (fun K hK => ?_)
      refine skip_ (w1 := ?_) (by rfl) rfl ?_ ?_
      rotate_left
      ·go_simp
       rfl
      refine hK.out _ _ ?_
      clear hK K
      refine done_ (by kernel_rfl) ?_
      obtain ⟨ho, hb, hgr⟩ := HN5.out
      have HG5 := blk_grown (show wr.drew.heap[g]? = _ from HG.out) hgr (Kd.R_ne HO.out HG.out (by decide))
      have ho2 : Kd.R (Kd.int .u8) 5 w7 w0.heap.size (fun _ => True) (.slice A5 (oj.length + 1) c5) (oj ++ [x]) := by
       have e : oj.length + 1 = (oj ++ [x]).length := by simp
       rw [e]
       exact ho
      have HRn := Aside0.mk (show RdrR w0 (w7.setCell ⟨g, 3, none⟩ (.slice A5 (oj.length + 1) c5)) g b most p4 (oj ++ [x]) from ⟨A0, c0, _, blk_put HG5 3 _ rfl, hge, HC0.out, hc, RdrR.put HG5 ho2 3 _⟩)
      have HBn := Aside0.mk (hb.setCell (p := ⟨g, 3, none⟩) hge (.slice A5 (oj.length + 1) c5))
      have HKn := Aside0.mk (((HK.out.trans (KeepR.of_below (Below.refl _ wr).drew)).trans (KeepR.grown hgr fun r hr => own_typed (Kd.own_of_R (Kd.R_drew HO.out)) r hr)).trans (KeepR.put HG5 3 (.slice A5 (oj.length + 1) c5)))
      have HCn : Aside0 (copyR dd (nn - (i + 1)) (oj ++ [x]) = copyR dd nn oi) := ⟨by
       have h1 := HCp.out
       rw [show nn - i = (nn - (i + 1)) + 1 from by omega] at h1
       have hkk := HKk.out
       have hln := HLn.out
       rw [HX.out, show (k : Int) = (oj.length : Int) - (dd : Int) from by omega]
       exact h1⟩
      clear ho2 HG5 ho hb hgr HN5 hcz3 hcz3a hcell hcella hfz7 hcz7 HG HO HC0 HR HB HK HCp
      go_wp2_with fail
      go_roundg (gk - 1)
      case measure => have := HQ.out; omega
      case rel => exact ⟨i + 1, oj ++ [x], by go_num, by omega, ⟨by have := HQ.out; omega⟩, ⟨by rw [List.length_append, List.length_singleton]; have := HLn.out; omega⟩, HCn, HRn, HBn, HKn⟩

/-! ### wherryref01_order: function 74 -/
def wherryref01_order.f  : Option (List Int) := some (([16, 17, 18, 0, 8, 7, 9, 6, 10, 5, 11, 4, 12, 3, 13, 2, 14, 1, 15] : List Int))
set_option maxHeartbeats 8000000 in
set_option maxRecDepth 100000 in
theorem wherryref01_order.calls  (r : List Int) (w : World) (h : wherryref01_order.f  = some r) :
  Calls Try.prog 74 #[] w fun e w' => ∃ v0_ : Value, e = .returned (v0_) ∧ Kd.R (Kd.int .i64) 3 w' w.heap.size (fun _ => True) v0_ r ∧ Below w.heap.size w w' := by
 have HB := Aside0.mk (Below.refl w.heap.size w)
 have H : (some (([16, 17, 18, 0, 8, 7, 9, 6, 10, 5, 11, 4, 12, 3, 13, 2, 14, 1, 15] : List Int))) = some r := h
 clear h
 obtain ⟨y245, hy245⟩ : ∃ y_ : List Int, y_ = (([16, 17, 18, 0, 8, 7, 9, 6, 10, 5, 11, 4, 12, 3, 13, 2, 14, 1, 15] : List Int)) := ⟨_, rfl⟩
 replace H : (some y245) = some r := by first | (rw [hy245]; with_reducible exact H) | (have H2_ := (Option.bind_some _ _).symm.trans H; rw [hy245]; with_reducible exact H2_) | (have H2_ := (Option.bind_some _ _).symm.trans H; with_reducible exact H2_) | with_reducible exact H | (rw [hy245]; exact H) | exact H
 have Ny245 := Aside0.mk hy245
 clear hy245
 obtain rfl := Option.some.inj H
 go_enter Try.func74, Try.ntmps74
 go_wp2_with (first | ((with_reducible refine gate_dst (N := 1) rfl ?_); refine Kd.R_lit (Kd.int .i64) _ 3 ?hg (N := 1) ?hd (xs := ([16, 17, 18, 0, 8, 7, 9, 6, 10, 5, 11, 4, 12, 3, 13, 2, 14, 1, 15] : List Int)) (inner := [.int .i64 16, .int .i64 17, .int .i64 18, .int .i64 0, .int .i64 8, .int .i64 7, .int .i64 9, .int .i64 6, .int .i64 10, .int .i64 5, .int .i64 11, .int .i64 4, .int .i64 12, .int .i64 3, .int .i64 13, .int .i64 2, .int .i64 14, .int .i64 1, .int .i64 15]) (ok := fun _ => True) (okp := fun _ => True) ?hr ?hp (fun _ hk => hk) trivial (Below.refl _ _) (Nat.le_refl _) (by simp) ?_; (case hd => rfl); (case hg => rfl); (case hr => first | (go_simp; done) | (go_simp; rfl)); (case hp => exact (Reps.one (show Kd.M (Kd.int .i64) _ _ _ 16 [.int .i64 16] from rfl) (Reps.one (show Kd.M (Kd.int .i64) _ _ _ 17 [.int .i64 17] from rfl) (Reps.one (show Kd.M (Kd.int .i64) _ _ _ 18 [.int .i64 18] from rfl) (Reps.one (show Kd.M (Kd.int .i64) _ _ _ 0 [.int .i64 0] from rfl) (Reps.one (show Kd.M (Kd.int .i64) _ _ _ 8 [.int .i64 8] from rfl) (Reps.one (show Kd.M (Kd.int .i64) _ _ _ 7 [.int .i64 7] from rfl) (Reps.one (show Kd.M (Kd.int .i64) _ _ _ 9 [.int .i64 9] from rfl) (Reps.one (show Kd.M (Kd.int .i64) _ _ _ 6 [.int .i64 6] from rfl) (Reps.one (show Kd.M (Kd.int .i64) _ _ _ 10 [.int .i64 10] from rfl) (Reps.one (show Kd.M (Kd.int .i64) _ _ _ 5 [.int .i64 5] from rfl) (Reps.one (show Kd.M (Kd.int .i64) _ _ _ 11 [.int .i64 11] from rfl) (Reps.one (show Kd.M (Kd.int .i64) _ _ _ 4 [.int .i64 4] from rfl) (Reps.one (show Kd.M (Kd.int .i64) _ _ _ 12 [.int .i64 12] from rfl) (Reps.one (show Kd.M (Kd.int .i64) _ _ _ 3 [.int .i64 3] from rfl) (Reps.one (show Kd.M (Kd.int .i64) _ _ _ 13 [.int .i64 13] from rfl) (Reps.one (show Kd.M (Kd.int .i64) _ _ _ 2 [.int .i64 2] from rfl) (Reps.one (show Kd.M (Kd.int .i64) _ _ _ 14 [.int .i64 14] from rfl) (Reps.one (show Kd.M (Kd.int .i64) _ _ _ 1 [.int .i64 1] from rfl) (Reps.one (show Kd.M (Kd.int .i64) _ _ _ 15 [.int .i64 15] from rfl) (Reps.none _ _))))))))))))))))))))); intro v246 w1 ho2 hb hg_ hnew_; clear hg_ hnew_; (first | rw [← Ny245.out] at ho2 | (simp only [Int.reduceToNat] at ho2; rw [← Ny245.out] at ho2)); have n0_ := Aside0.mk (Kd.R_lower ho2 (below_size (by repeat (first | (with_reducible first | exact HB.out | apply below_alloc | apply pw_below_drewN | apply below_drew1) | exact HB.out)))); have n1_ := Aside0.mk (below_step (by repeat (first | (with_reducible first | exact HB.out | apply below_alloc | apply pw_below_drewN | apply below_drew1) | exact HB.out)) hb); clear HB; have HO247 := n0_; have HB := n1_; clear n0_ n1_; clear hb ho2))
 go_ret
 exact ⟨_, by first | rfl | (simp [errW_none, errW_some] <;> rfl) | (simp [*, errW_none, errW_some] <;> rfl), by (with_reducible repeat (first | apply Kd.R_alloc | apply Kd.R_drewN | apply Kd.R_drew)); exact HO247.out, by repeat (first | (with_reducible first | exact HB.out | apply below_alloc | apply pw_below_drewN | apply below_drew1) | exact HB.out)⟩

/-! ### wherryref01_Weigh: function 98 -/
def wherryref01_Weigh.l0 : Nat → List Int → Int → Int → Option (Int)
 | 0, _, _, _ => none
 | k + 1, x0, x3, x4 => if x4 < (x0.length : Int) then (if 0 ≤ x4 then (if (rd x0 x4) > 0 then (if 0 ≤ (IntKind.u64.wrap (wrap64 (15 - (rd x0 x4)))) then (wherryref01_Weigh.l0 k x0 (wrap64 (x3 + (shl .i64 1 (IntKind.u64.wrap (wrap64 (15 - (rd x0 x4))))))) (wrap64 (x4 + 1))) else (none)) else (wherryref01_Weigh.l0 k x0 x3 (wrap64 (x4 + 1)))) else (none)) else (some x3)
def wherryref01_Weigh.f (k : Nat) (l0 : List Int) : Option (Int) := (wherryref01_RightLengths.f k l0).bind fun t248 => (if t248 = true then (wherryref01_Weigh.l0 k l0 0 0) else (some 0))
set_option maxHeartbeats 8000000 in
set_option maxRecDepth 100000 in
theorem wherryref01_Weigh.calls (k : Nat) (A0 : Option Addr) (c0 : Nat) (l0 : List Int) (r : Int) (w : World) (hr0 : Kd.C (Kd.int .i64) w A0 l0.length l0) (hc0 : l0.length ≤ c0) (h : wherryref01_Weigh.f k l0 = some r) :
  Calls Try.prog 98 #[.slice A0 l0.length c0] w fun e w' => e = .returned (.int .i64 r) ∧ Drawn0 w w' := by
 have HR0 := Aside0.mk hr0
 have HC0 := Aside0.mk hc0
 clear hr0 hc0
 have H : ((wherryref01_RightLengths.f k l0).bind fun t248 => (if t248 = true then (wherryref01_Weigh.l0 k l0 0 0) else (some 0))) = some r := h
 clear h
 replace H := Option.bind_eq_some_iff.mp H
 obtain ⟨t248, A20, H⟩ := H
 replace H : (if t248 = true then (wherryref01_Weigh.l0 k l0 0 0) else (some 0)) = some r := H
 have A2 := Aside0.mk A20
 clear A20
 by_cases c3 : t248 = true
 ·subst c3
  have H1 : (wherryref01_Weigh.l0 k l0 0 0) = some r := by rw [if_pos rfl] at H; exact H
  clear H
  have H := H1
  clear H1
  have H' := Aside0.mk H
  clear H
  go_enter Try.func98, Try.ntmps98
  go_wp2_with (first | ((with_reducible refine gate_callee (f := 110) rfl ?_); refine goesL_ (some 6) rfl rfl Try.func110 (by kernel_rfl) rfl #[.slice A0 l0.length c0] rfl (by (try simp only [List.map_toArray, List.map_cons, List.map_nil]); first | done | rfl | (simp only [List.length_drop, List.length_take]; rfl)) ?_; (with_reducible refine (wherryref01_RightLengths.calls k _ _ l0 true _ ?side1 ?side2 A2.out).mono ?_); (case side1 => repeat (first | exact HR0.out | (with_reducible refine Kd.C_alloc ?_ _) | (with_reducible refine Kd.C_drewN ?_ _) | (with_reducible refine Kd.C_drew ?_))); (case side2 => exact HC0.out); rintro e w' ⟨rfl, ⟨nd, rfl⟩⟩; refine ⟨_, rfl, ?_⟩))
  go_loopg [3, 4] k (fun kq v3 v4 w' => ∃ (x3_1 : Int) (x4_1 : Int), v3 = .int .i64 x3_1 ∧ v4 = .int .i64 x4_1 ∧ Aside0 (wherryref01_Weigh.l0 kq l0 x3_1 x4_1 = some r) ∧ Aside0 (kq ≤ k) ∧ Drawn0 w w')
  case atStart => exact ⟨(0), (0), (by first | rfl | (simp; done) | (simp [*]; done)), (by first | rfl | (simp; done) | (simp [*]; done)), H', ⟨Nat.le_refl _⟩, by repeat (first | exact Drawn0.refl _ | apply Drawn0.step)⟩
  case round =>
   clear H'
   try clear c1
   try clear p2
   try clear c3
   obtain ⟨x3_1, x4_1, rfl, rfl, HA, HK1, ⟨m1, rfl⟩⟩ := hrel
   cases gk with
   | zero => exact absurd HA.out (by simp [wherryref01_Weigh.l0])
   | succ k1 =>
    have H := HA.out
    clear HA
    simp only [wherryref01_Weigh.l0] at H
    by_cases c4 : x4_1 < (l0.length : Int)
    ·rw [if_pos c4] at H
     have c4b0 : decide (x4_1 < (l0.length : Int)) = true := decide_eq_true c4
     clear c4
     by_cases c5 : 0 ≤ x4_1
     ·rw [if_pos c5] at H
      have c5b0 : decide (0 ≤ x4_1) = true := decide_eq_true c5
      clear c5
      by_cases c6 : (rd l0 x4_1) > 0
      ·rw [if_pos c6] at H
       have c6b0 : decide (0 < (rd l0 x4_1)) = true := decide_eq_true c6
       clear c6
       obtain ⟨ji7, hji7⟩ : ∃ j_ : Int, (IntKind.u64.wrap (wrap64 (15 - (rd l0 x4_1)))) = j_ := ⟨_, rfl⟩
       replace H : (if 0 ≤ (ji7) then (wherryref01_Weigh.l0 k1 l0 (wrap64 (x3_1 + (shl .i64 1 (ji7)))) (wrap64 (x4_1 + 1))) else (none)) = some r := by first | (rw [hji7] at H; exact H) | (simp only [hji7] at H ⊢; exact H)
       by_cases c8 : 0 ≤ (ji7)
       ·rw [if_pos c8] at H
        have c8b0 := eq_true c8
        have c8b1 : decide (0 ≤ (ji7)) = true := decide_eq_true c8
        clear c8
        obtain ⟨ji9, hji9⟩ : ∃ j_ : Int, (shl .i64 1 (ji7)) = j_ := ⟨_, rfl⟩
        replace H : (wherryref01_Weigh.l0 k1 l0 (wrap64 (x3_1 + (ji9))) (wrap64 (x4_1 + 1))) = some r := by first | (rw [hji9] at H; exact H) | (simp only [hji9] at H ⊢; exact H)
        have hji9_ : (IntKind.i64.wrap (1 * 2 ^ min (ji7).toNat 64)) = ji9 := hji9
        have hji9z : (ji7) ≤ 64 → (IntKind.i64.wrap (1 * 2 ^ (ji7).toNat)) = ji9 := shl_small hji9
        have hji9u : (IntKind.i64.wrap (2 ^ min (ji7).toNat 64)) = ji9 := by have h_ := hji9_; rw [Int.one_mul] at h_; exact h_
        have hji9v : (ji7) ≤ 64 → (IntKind.i64.wrap (2 ^ (ji7).toNat)) = ji9 := fun hle_ => by have h_ := hji9z hle_; rw [Int.one_mul] at h_; exact h_
        have hji9y : (wrap64 (1 * 2 ^ min (ji7).toNat 64)) = ji9 := (i64_w _).symm.trans hji9_
        have hji9x : (ji7) ≤ 64 → (wrap64 (1 * 2 ^ (ji7).toNat)) = ji9 := fun h_ => (i64_w _).symm.trans (hji9z h_)
        have H' := Aside0.mk H
        clear H
        have p249 : 0 ≤ (x4_1 : Int) := of_decide_eq_true (by first | (with_reducible assumption) | assumption)
        have q249 : x4_1 < (l0.length : Int) := of_decide_eq_true (by first | (with_reducible assumption) | assumption)
        obtain ⟨ad249, e249, hx249_0⟩ := Kd.at_int HR0.out x4_1 p249 q249
        cases e249
        replace p249 := eq_true p249
        replace q249 := eq_true q249
        have p250 : 0 ≤ (x4_1 : Int) := of_decide_eq_true (by first | (with_reducible assumption) | assumption)
        have q250 : x4_1 < (l0.length : Int) := of_decide_eq_true (by first | (with_reducible assumption) | assumption)
        obtain ⟨ad250, e250, hx250_0⟩ := Kd.at_int HR0.out x4_1 p250 q250
        obtain rfl : ad249 = ad250 := (by injection e250)
        replace p250 := eq_true p250
        replace q250 := eq_true q250
        go_wp2
        go_roundg k1
        case measure => have := HK1.out; omega
        case rel => exact ⟨(wrap64 (x3_1 + (ji9))), (wrap64 (x4_1 + 1)), (by first | rfl | (simp; done) | (simp only [← hji9] <;> (first | rfl | simp)) | (simp [*]; done)), (by first | rfl | (simp; done) | (simp [*]; done)), H', ⟨by have := HK1.out; omega⟩, by repeat (first | exact Drawn0.refl _ | apply Drawn0.step)⟩
       ·rw [if_neg c8] at H
        exact absurd H (by simp)
      ·rw [if_neg c6] at H
       have c6b0 : decide (0 < (rd l0 x4_1)) = false := decide_eq_false c6
       clear c6
       have H' := Aside0.mk H
       clear H
       have p249 : 0 ≤ (x4_1 : Int) := of_decide_eq_true (by first | (with_reducible assumption) | assumption)
       have q249 : x4_1 < (l0.length : Int) := of_decide_eq_true (by first | (with_reducible assumption) | assumption)
       obtain ⟨ad249, e249, hx249_0⟩ := Kd.at_int HR0.out x4_1 p249 q249
       cases e249
       replace p249 := eq_true p249
       replace q249 := eq_true q249
       go_wp2
       go_roundg k1
       case measure => have := HK1.out; omega
       case rel => exact ⟨(x3_1), (wrap64 (x4_1 + 1)), (by first | rfl | (simp; done) | (simp [*]; done)), (by first | rfl | (simp; done) | (simp [*]; done)), H', ⟨by have := HK1.out; omega⟩, by repeat (first | exact Drawn0.refl _ | apply Drawn0.step)⟩
     ·rw [if_neg c5] at H
      exact absurd H (by simp)
    ·rw [if_neg c4] at H
     have c4b0 : decide (x4_1 < (l0.length : Int)) = false := decide_eq_false c4
     clear c4
     obtain rfl := Option.some.inj H
     go_wp2
     go_ret
     exact ⟨by first | rfl | (simp; done) | (simp [*]; done), by repeat (first | exact Drawn0.refl _ | apply Drawn0.step)⟩
 ·replace c3 := Bool.eq_false_iff.mpr c3
  subst c3
  have H1 : (some 0) = some r := by rw [if_neg (show ¬ (false = true) by decide)] at H; exact H
  clear H
  have H := H1
  clear H1
  obtain rfl := Option.some.inj H
  go_enter Try.func98, Try.ntmps98
  go_wp2_with (first | ((with_reducible refine gate_callee (f := 110) rfl ?_); refine goesL_ (some 6) rfl rfl Try.func110 (by kernel_rfl) rfl #[.slice A0 l0.length c0] rfl (by (try simp only [List.map_toArray, List.map_cons, List.map_nil]); first | done | rfl | (simp only [List.length_drop, List.length_take]; rfl)) ?_; (with_reducible refine (wherryref01_RightLengths.calls k _ _ l0 false _ ?side1 ?side2 A2.out).mono ?_); (case side1 => repeat (first | exact HR0.out | (with_reducible refine Kd.C_alloc ?_ _) | (with_reducible refine Kd.C_drewN ?_ _) | (with_reducible refine Kd.C_drew ?_))); (case side2 => exact HC0.out); rintro e w' ⟨rfl, ⟨nd, rfl⟩⟩; refine ⟨_, rfl, ?_⟩))
  go_ret
  exact ⟨by first | rfl | (simp; done) | (simp [*]; done), by repeat (first | exact Drawn0.refl _ | apply Drawn0.step)⟩

/-! ### wherryref01_makes: function 75 -/
def wherryref01_makes.l0 : Nat → List Int → Int → Int → Int → Option (Bool)
 | 0, _, _, _, _ => none
 | k + 1, x0, x3, x4, x5 => if x5 < (x0.length : Int) then (if 0 ≤ x5 then (if (rd x0 x5) > 0 then (wherryref01_makes.l0 k x0 (wrap64 (x3 + 1)) (rd x0 x5) (wrap64 (x5 + 1))) else (wherryref01_makes.l0 k x0 x3 x4 (wrap64 (x5 + 1)))) else (none)) else (if x3 = 0 then (some true) else (if x3 = 1 then (if x4 = 1 then (some true) else ((wherryref01_Weigh.f k x0).bind fun t253 => (some (t253 == 32768)))) else ((wherryref01_Weigh.f k x0).bind fun t254 => (some (t254 == 32768)))))
def wherryref01_makes.f (k : Nat) (l0 : List Int) : Option (Bool) := wherryref01_makes.l0 k l0 0 0 0
set_option maxHeartbeats 8000000 in
set_option maxRecDepth 100000 in
theorem wherryref01_makes.calls (k : Nat) (A0 : Option Addr) (c0 : Nat) (l0 : List Int) (r : Bool) (w : World) (hr0 : Kd.C (Kd.int .i64) w A0 l0.length l0) (hc0 : l0.length ≤ c0) (h : wherryref01_makes.f k l0 = some r) :
  Calls Try.prog 75 #[.slice A0 l0.length c0] w fun e w' => e = .returned (.bool r) ∧ Drawn0 w w' := by
 have HR0 := Aside0.mk hr0
 have HC0 := Aside0.mk hc0
 clear hr0 hc0
 have H : (wherryref01_makes.l0 k l0 0 0 0) = some r := h
 clear h
 have H' := Aside0.mk H
 clear H
 go_enter Try.func75, Try.ntmps75
 go_wp2
 repeat (go_quiet (fail); try go_wp2)
 go_loopg [3, 4, 5] k (fun kq v3 v4 v5 w' => ∃ (x3_1 : Int) (x4_1 : Int) (x5_1 : Int), v3 = .int .i64 x3_1 ∧ v4 = .int .i64 x4_1 ∧ v5 = .int .i64 x5_1 ∧ Aside0 (wherryref01_makes.l0 kq l0 x3_1 x4_1 x5_1 = some r) ∧ Aside0 (kq ≤ k) ∧ Drawn0 w w')
 case atStart => exact ⟨(0), (0), (0), (by first | rfl | (simp; done) | (simp [*]; done)), (by first | rfl | (simp; done) | (simp [*]; done)), (by first | rfl | (simp; done) | (simp [*]; done)), H', ⟨Nat.le_refl _⟩, by repeat (first | exact Drawn0.refl _ | apply Drawn0.step)⟩
 case round =>
  clear H'
  obtain ⟨x3_1, x4_1, x5_1, rfl, rfl, rfl, HA, HK1, ⟨m1, rfl⟩⟩ := hrel
  cases gk with
  | zero => exact absurd HA.out (by simp [wherryref01_makes.l0])
  | succ k1 =>
   have H := HA.out
   clear HA
   simp only [wherryref01_makes.l0] at H
   by_cases c2 : x5_1 < (l0.length : Int)
   ·rw [if_pos c2] at H
    have c2b0 : decide (x5_1 < (l0.length : Int)) = true := decide_eq_true c2
    clear c2
    by_cases c3 : 0 ≤ x5_1
    ·rw [if_pos c3] at H
     have c3b0 : decide (0 ≤ x5_1) = true := decide_eq_true c3
     clear c3
     by_cases c4 : (rd l0 x5_1) > 0
     ·rw [if_pos c4] at H
      have c4b0 : decide (0 < (rd l0 x5_1)) = true := decide_eq_true c4
      clear c4
      have H' := Aside0.mk H
      clear H
      have p251 : 0 ≤ (x5_1 : Int) := of_decide_eq_true (by first | (with_reducible assumption) | assumption)
      have q251 : x5_1 < (l0.length : Int) := of_decide_eq_true (by first | (with_reducible assumption) | assumption)
      obtain ⟨ad251, e251, hx251_0⟩ := Kd.at_int HR0.out x5_1 p251 q251
      cases e251
      replace p251 := eq_true p251
      replace q251 := eq_true q251
      have p252 : 0 ≤ (x5_1 : Int) := of_decide_eq_true (by first | (with_reducible assumption) | assumption)
      have q252 : x5_1 < (l0.length : Int) := of_decide_eq_true (by first | (with_reducible assumption) | assumption)
      obtain ⟨ad252, e252, hx252_0⟩ := Kd.at_int HR0.out x5_1 p252 q252
      obtain rfl : ad251 = ad252 := (by injection e252)
      replace p252 := eq_true p252
      replace q252 := eq_true q252
      go_wp2
      repeat (go_quiet (fail); try go_wp2)
      go_roundg k1
      case measure => have := HK1.out; omega
      case rel => exact ⟨(wrap64 (x3_1 + 1)), (rd l0 x5_1), (wrap64 (x5_1 + 1)), (by first | rfl | (simp; done) | (simp [*]; done)), (by first | rfl | (simp; done) | (simp [*]; done)), (by first | rfl | (simp; done) | (simp [*]; done)), H', ⟨by have := HK1.out; omega⟩, by repeat (first | exact Drawn0.refl _ | apply Drawn0.step)⟩
     ·rw [if_neg c4] at H
      have c4b0 : decide (0 < (rd l0 x5_1)) = false := decide_eq_false c4
      clear c4
      have H' := Aside0.mk H
      clear H
      have p251 : 0 ≤ (x5_1 : Int) := of_decide_eq_true (by first | (with_reducible assumption) | assumption)
      have q251 : x5_1 < (l0.length : Int) := of_decide_eq_true (by first | (with_reducible assumption) | assumption)
      obtain ⟨ad251, e251, hx251_0⟩ := Kd.at_int HR0.out x5_1 p251 q251
      cases e251
      replace p251 := eq_true p251
      replace q251 := eq_true q251
      go_wp2
      repeat (go_quiet (fail); try go_wp2)
      go_roundg k1
      case measure => have := HK1.out; omega
      case rel => exact ⟨(x3_1), (x4_1), (wrap64 (x5_1 + 1)), (by first | rfl | (simp; done) | (simp [*]; done)), (by first | rfl | (simp; done) | (simp [*]; done)), (by first | rfl | (simp; done) | (simp [*]; done)), H', ⟨by have := HK1.out; omega⟩, by repeat (first | exact Drawn0.refl _ | apply Drawn0.step)⟩
    ·rw [if_neg c3] at H
     exact absurd H (by simp)
   ·rw [if_neg c2] at H
    have c2b0 : decide (x5_1 < (l0.length : Int)) = false := decide_eq_false c2
    clear c2
    by_cases c5 : x3_1 = 0
    ·rw [if_pos c5] at H
     have c5b0 : (x3_1 == 0) = true := beq_iff_eq.mpr c5
     have c5b1 : (x3_1 != 0) = false := bne_eq_false_iff_eq.mpr c5
     clear c5
     obtain rfl := Option.some.inj H
     go_wp2
     repeat (go_quiet (fail); try go_wp2)
     go_ret
     exact ⟨by first | rfl | (simp; done) | (simp [*]; done), by repeat (first | exact Drawn0.refl _ | apply Drawn0.step)⟩
    ·rw [if_neg c5] at H
     have c5b0 : (x3_1 == 0) = false := beq_eq_false_iff_ne.mpr c5
     have c5b1 : (x3_1 != 0) = true := bne_iff_ne.mpr c5
     by_cases c6 : x3_1 = 1
     ·rw [if_pos c6] at H
      have c6b0 : (x3_1 == 1) = true := beq_iff_eq.mpr c6
      have c6b1 : (x3_1 != 1) = false := bne_eq_false_iff_eq.mpr c6
      clear c6
      by_cases c7 : x4_1 = 1
      ·rw [if_pos c7] at H
       have c7b0 : (x4_1 == 1) = true := beq_iff_eq.mpr c7
       have c7b1 : (x4_1 != 1) = false := bne_eq_false_iff_eq.mpr c7
       clear c7
       obtain rfl := Option.some.inj H
       go_wp2
       repeat (go_quiet (fail); try go_wp2)
       go_ret
       exact ⟨by first | rfl | (simp; done) | (simp [*]; done), by repeat (first | exact Drawn0.refl _ | apply Drawn0.step)⟩
      ·rw [if_neg c7] at H
       have c7b0 : (x4_1 == 1) = false := beq_eq_false_iff_ne.mpr c7
       have c7b1 : (x4_1 != 1) = true := bne_iff_ne.mpr c7
       replace H := Option.bind_eq_some_iff.mp H
       obtain ⟨t253, A80, H⟩ := H
       replace H : (some (t253 == 32768)) = some r := H
       have A8 := Aside0.mk A80
       clear A80
       obtain rfl := Option.some.inj H
       go_wp2_with (first | (go_at_call 98; (with_reducible refine (wherryref01_Weigh.calls k1 _ _ l0 t253 _ ?side1 ?side2 A8.out).mono ?_); (case side1 => repeat (first | exact HR0.out | (with_reducible refine Kd.C_alloc ?_ _) | (with_reducible refine Kd.C_drewN ?_ _) | (with_reducible refine Kd.C_drew ?_))); (case side2 => exact HC0.out); rintro e w' ⟨rfl, ⟨nd, rfl⟩⟩; (try first | exact ⟨rfl, _, World.drewN_drewN _ _ _⟩ | exact ⟨rfl, _, Eq.trans (World.drewN_drewN _ _ _) (congrArg (World.drewN _) (Nat.add_assoc _ _ _))⟩)))
       repeat (go_quiet (first | (go_at_call 98; (with_reducible refine (wherryref01_Weigh.calls k1 _ _ l0 t253 _ ?side1 ?side2 A8.out).mono ?_); (case side1 => repeat (first | exact HR0.out | (with_reducible refine Kd.C_alloc ?_ _) | (with_reducible refine Kd.C_drewN ?_ _) | (with_reducible refine Kd.C_drew ?_))); (case side2 => exact HC0.out); rintro e w' ⟨rfl, ⟨nd, rfl⟩⟩; (try first | exact ⟨rfl, _, World.drewN_drewN _ _ _⟩ | exact ⟨rfl, _, Eq.trans (World.drewN_drewN _ _ _) (congrArg (World.drewN _) (Nat.add_assoc _ _ _))⟩))); try go_wp2_with (first | (go_at_call 98; (with_reducible refine (wherryref01_Weigh.calls k1 _ _ l0 t253 _ ?side1 ?side2 A8.out).mono ?_); (case side1 => repeat (first | exact HR0.out | (with_reducible refine Kd.C_alloc ?_ _) | (with_reducible refine Kd.C_drewN ?_ _) | (with_reducible refine Kd.C_drew ?_))); (case side2 => exact HC0.out); rintro e w' ⟨rfl, ⟨nd, rfl⟩⟩; (try first | exact ⟨rfl, _, World.drewN_drewN _ _ _⟩ | exact ⟨rfl, _, Eq.trans (World.drewN_drewN _ _ _) (congrArg (World.drewN _) (Nat.add_assoc _ _ _))⟩))))
       go_ret
       exact ⟨by first | rfl | (simp; done) | (simp [*]; done), by repeat (first | exact Drawn0.refl _ | apply Drawn0.step)⟩
     ·rw [if_neg c6] at H
      have c6b0 : (x3_1 == 1) = false := beq_eq_false_iff_ne.mpr c6
      have c6b1 : (x3_1 != 1) = true := bne_iff_ne.mpr c6
      replace H := Option.bind_eq_some_iff.mp H
      obtain ⟨t254, A90, H⟩ := H
      replace H : (some (t254 == 32768)) = some r := H
      have A9 := Aside0.mk A90
      clear A90
      obtain rfl := Option.some.inj H
      go_wp2_with (first | (go_at_call 98; (with_reducible refine (wherryref01_Weigh.calls k1 _ _ l0 t254 _ ?side1 ?side2 A9.out).mono ?_); (case side1 => repeat (first | exact HR0.out | (with_reducible refine Kd.C_alloc ?_ _) | (with_reducible refine Kd.C_drewN ?_ _) | (with_reducible refine Kd.C_drew ?_))); (case side2 => exact HC0.out); rintro e w' ⟨rfl, ⟨nd, rfl⟩⟩; (try first | exact ⟨rfl, _, World.drewN_drewN _ _ _⟩ | exact ⟨rfl, _, Eq.trans (World.drewN_drewN _ _ _) (congrArg (World.drewN _) (Nat.add_assoc _ _ _))⟩)))
      repeat (go_quiet (first | (go_at_call 98; (with_reducible refine (wherryref01_Weigh.calls k1 _ _ l0 t254 _ ?side1 ?side2 A9.out).mono ?_); (case side1 => repeat (first | exact HR0.out | (with_reducible refine Kd.C_alloc ?_ _) | (with_reducible refine Kd.C_drewN ?_ _) | (with_reducible refine Kd.C_drew ?_))); (case side2 => exact HC0.out); rintro e w' ⟨rfl, ⟨nd, rfl⟩⟩; (try first | exact ⟨rfl, _, World.drewN_drewN _ _ _⟩ | exact ⟨rfl, _, Eq.trans (World.drewN_drewN _ _ _) (congrArg (World.drewN _) (Nat.add_assoc _ _ _))⟩))); try go_wp2_with (first | (go_at_call 98; (with_reducible refine (wherryref01_Weigh.calls k1 _ _ l0 t254 _ ?side1 ?side2 A9.out).mono ?_); (case side1 => repeat (first | exact HR0.out | (with_reducible refine Kd.C_alloc ?_ _) | (with_reducible refine Kd.C_drewN ?_ _) | (with_reducible refine Kd.C_drew ?_))); (case side2 => exact HC0.out); rintro e w' ⟨rfl, ⟨nd, rfl⟩⟩; (try first | exact ⟨rfl, _, World.drewN_drewN _ _ _⟩ | exact ⟨rfl, _, Eq.trans (World.drewN_drewN _ _ _) (congrArg (World.drewN _) (Nat.add_assoc _ _ _))⟩))))
      go_ret
      exact ⟨by first | rfl | (simp; done) | (simp [*]; done), by repeat (first | exact Drawn0.refl _ | apply Drawn0.step)⟩

/-! ### wherryref01_reader_dynamic: function 40 (by hand) -/
theorem introw_keepR {W W' : World} {base : Nat} {ok : Nat → Prop} {v : Value} {xs : List Int} (h : Kd.R (Kd.int .i64) 3 W base ok v xs) (hk : KeepR W W') : Kd.R (Kd.int .i64) 3 W' base ok v xs :=
 Kd.R_of_own (own_move (Kd.own_of_R h) fun k hkk => by
  obtain ⟨cells, hc⟩ := own_typed (Kd.own_of_R h) k hkk
  rw [hc]
  exact hk.2 _ _ _ hc (by decide) (by decide)) h.1
theorem RdrR.int_put {w0 W : World} {g : Nat} {b : List Int} {most pos : Int} {out : List Int} (h : RdrR w0 W g b most pos out) {p : Nat} {cs : Array Value} (hp : W.heap[p]? = some (.cells cs 3 (0, 0))) (i : Nat) (v : Value) : RdrR w0 (W.setCell ⟨p, i, none⟩ v) g b most pos out := by
 obtain ⟨A0, c0, v3, h1, h2, h3, h4, h5⟩ := h
 have hne : g ≠ p := by
  rintro rfl
  rw [h1] at hp
  injection hp with hp
  injection hp with _ ht
  exact absurd ht (by decide)
 exact ⟨A0, c0, v3, blk_far (p := ⟨p, i, none⟩) h1 hne v, h2, h3, h4, Kd.R_mono (Kd.R_far (p := ⟨p, i, none⟩) (Kd.R_types h5 hp (by decide)) (fun _ hk => hk.2) v) (fun _ hk => hk.1)⟩
theorem KeepR.fresh {w W : World} (h : KeepR w W) {p : Nat} (hp : w.heap.size ≤ p) (i : Nat) (v : Value) : KeepR w (W.setCell ⟨p, i, none⟩ v) := by
 refine ⟨by have := h.1; simp [World.setCell]; omega, fun k c t hk h5 h9 => blk_far (p := ⟨p, i, none⟩) (h.2 k c t hk h5 h9) ?_ v⟩
 have := rheap_lt hk
 show k ≠ p
 omega
theorem RdrR.grown {w0 W W1 : World} {g : Nat} {b : List Int} {most pos : Int} {out : List Int} (h : RdrR w0 W g b most pos out) {row : Option Nat} (hw : W.grownBy W1 row) (hr : ∀ p, row = some p → ∃ cs, W.heap[p]? = some (.cells cs 3 (0, 0))) : RdrR w0 W1 g b most pos out := by
 obtain ⟨A0, c0, v3, h1, h2, h3, h4, h5⟩ := h
 have hne : ∀ (q : Nat) (cs : Array Value) (ty : TypeId), W.heap[q]? = some (.cells cs ty (0, 0)) → ty ≠ 3 → some q ≠ row := by
  intro q cs ty hq ht he
  obtain ⟨cs2, hp⟩ := hr q he.symm
  rw [hq] at hp
  injection hp with hp
  injection hp with _ hp
  exact ht hp
 refine ⟨A0, c0, v3, blk_grown h1 hw (hne g _ _ h1 (by decide)), h2, h3, h4, ?_⟩
 refine Kd.R_of_own (own_move (Kd.own_of_R h5) fun k hk => ?_) (fun _ _ => trivial)
 obtain ⟨cells, hc⟩ := own_typed (Kd.own_of_R h5) k hk
 exact hw.block k (rheap_lt hc) (hne k _ _ hc (by decide))
theorem KeepR.grown_fresh {w W W1 : World} (h : KeepR w W) {row : Option Nat} (hw : W.grownBy W1 row) (hr : ∀ p, row = some p → w.heap.size ≤ p) : KeepR w W1 := by
 refine ⟨Nat.le_trans h.1 hw.size, fun k c t hk h5 h9 => ?_⟩
 have h1 := h.2 k c t hk h5 h9
 refine (hw.block k (rheap_lt h1) fun he => ?_).trans h1
 have := hr k he.symm
 have := rheap_lt hk
 omega
/-- The lengths' own. -/
def ordR : List Int := [16, 17, 18, 0, 8, 7, 9, 6, 10, 5, 11, 4, 12, 3, 13, 2, 14, 1, 15]
theorem ordR_in : ∀ i : Fin 19, 0 ≤ ordR.getD i.val 0 ∧ ordR.getD i.val 0 < 19 := by decide
theorem ord_cell {W : World} {base g2 c2 i qq : Nat} (h : Kd.R (Kd.int .i64) 3 W base (fun _ => True) (.slice (some ⟨g2, 0, none⟩) 19 c2) ordR) (h0 : (0 : Int) ≤ (i : Int)) (hi : (i : Int) < 19) (hq : ordR.getD i 0 = (qq : Int)) : W.cell? ⟨g2, i, none⟩ = some (.int .i64 (qq : Int)) := by
 obtain ⟨hcell, _⟩ := Kd.R_celln (0 : Int) h (i : Int) h0 (by show (i : Int) < 19; exact hi)
 rw [show rdOf (0 : Int) ordR (i : Int) = (qq : Int) from by unfold rdOf; rw [Int.toNat_natCast]; exact hq, Int.toNat_natCast] at hcell
 exact hcell
def ownR (b : List Int) : Nat → Nat → List Int → Int → Option (List Int × Int)
 | 0, _, own, p => some (own, p)
 | n + 1, i, own, p => (getR b p 3).bind fun r => ownR b n (i + 1) (own.set (ordR.getD i 0).toNat r.1) r.2
def rowS (k : List Int → Int → Option (List Int × Int)) (row : List Int) (v c p : Int) : Option (List Int × Int) := if 0 ≤ c ∧ c ≤ 1000 ∧ row.length ≤ 1000 then k (row ++ List.replicate c.toNat v) p else none
/-- So many lengths, by the lengths' own. -/
def rowR (own c b : List Int) (many : Int) : Nat → List Int → Int → Option (List Int × Int)
 | 0, _, _ => none
 | n + 1, row, p => if (row.length : Int) < many then (symR own c b p).bind fun s =>
   if s.1 = 16 then (if 0 < row.length then (getR b s.2 2).bind fun t => rowS (rowR own c b many n) row (rd row ((row.length : Int) - 1)) (wrap64 (3 + t.1)) t.2 else none)
   else if s.1 = 17 then (getR b s.2 3).bind fun t => rowS (rowR own c b many n) row 0 (wrap64 (3 + t.1)) t.2
   else if s.1 = 18 then (getR b s.2 7).bind fun t => rowS (rowR own c b many n) row 0 (wrap64 (11 + t.1)) t.2
   else rowS (rowR own c b many n) row s.1 1 s.2
  else some (row, p)
def dynR (b : List Int) (most : Int) (N : Nat) (p : Int) (out : List Int) : Option (Int × List Int) :=
 (getR b p 5).bind fun r1 => (getR b r1.2 5).bind fun r2 => (getR b r2.2 4).bind fun r3 =>
  if 0 ≤ r1.1 ∧ r1.1 ≤ 29 ∧ 0 ≤ r2.1 ∧ r2.1 ≤ 29 ∧ 0 ≤ r3.1 ∧ r3.1 ≤ 15 then
   (ownR b (r3.1.toNat + 4) 0 (List.replicate 19 0) r3.2).bind fun o => if wherryref01_makes.f 6000 o.1 = some true then
    (wherryref01_codes.f 8000 o.1).bind fun c => (rowR o.1 c b (r1.1 + 257 + (r2.1 + 1)) 400 [] o.2).bind fun w =>
     if (w.1.length : Int) = r1.1 + 257 + (r2.1 + 1) ∧ wherryref01_makes.f 6000 (w.1.take (r1.1.toNat + 257)) = some true ∧ wherryref01_makes.f 6000 (w.1.drop (r1.1.toNat + 257)) = some true ∧ rd w.1 256 ≠ 0 then
      (wherryref01_codes.f 8000 (w.1.take (r1.1.toNat + 257))).bind fun a1 => (wherryref01_codes.f 8000 (w.1.drop (r1.1.toNat + 257))).bind fun a2 =>
       textR (w.1.take (r1.1.toNat + 257)) a1 (w.1.drop (r1.1.toNat + 257)) a2 b most N w.2 out
     else none
   else none
  else none
theorem order_is : wherryref01_order.f = some ordR := rfl
set_option maxHeartbeats 8000000 in
set_option maxRecDepth 100000 in
theorem rr_dynamic (g : Nat) (b : List Int) (most pos q : Int) (out out' : List Int) (N : Nat) (w0 w : World) (hR : RdrR w0 w g b most pos out) (hB : Below w0.heap.size w0 w) (h : dynR b most N pos out = some (q, out')) :
  Calls Try.prog 40 #[.pointer (some ⟨g, 0, none⟩)] w fun r w' => r = .returned (.tuple #[]) ∧ RdrR w0 w' g b most q out' ∧ Below w0.heap.size w0 w' ∧ KeepR w w' := by
 unfold dynR at h
 obtain ⟨⟨v1, p1⟩, h1, ha⟩ := Option.bind_eq_some_iff.1 h
 obtain ⟨⟨v2, p2⟩, h2, hb⟩ := Option.bind_eq_some_iff.1 ha
 obtain ⟨⟨v3, p3⟩, h3, hc⟩ := Option.bind_eq_some_iff.1 hb
 clear h ha hb
 simp only at h1 h2 h3 hc
 by_cases hv : 0 ≤ v1 ∧ v1 ≤ 29 ∧ 0 ≤ v2 ∧ v2 ≤ 29 ∧ 0 ≤ v3 ∧ v3 ≤ 15
 rotate_left
 ·rw [if_neg hv] at hc; cases hc
 rw [if_pos hv] at hc
 obtain ⟨hv1, hv1b, hv2, hv2b, hv3, hv3b⟩ := hv
 obtain ⟨n1, rfl⟩ : ∃ n : Nat, v1 = (n : Int) := ⟨v1.toNat, by omega⟩
 obtain ⟨n2, rfl⟩ : ∃ n : Nat, v2 = (n : Int) := ⟨v2.toNat, by omega⟩
 obtain ⟨n3, rfl⟩ : ∃ n : Nat, v3 = (n : Int) := ⟨v3.toNat, by omega⟩
 simp only [Int.toNat_natCast] at hc
 obtain ⟨⟨own, p4⟩, ho, hd⟩ := Option.bind_eq_some_iff.1 hc
 clear hc
 simp only at ho hd
 by_cases hmk : wherryref01_makes.f 6000 own = some true
 rotate_left
 ·rw [if_neg hmk] at hd; cases hd
 rw [if_pos hmk] at hd
 obtain ⟨c, hcd, he⟩ := Option.bind_eq_some_iff.1 hd
 obtain ⟨⟨row, p5⟩, hrow, hf⟩ := Option.bind_eq_some_iff.1 he
 clear hd he
 simp only at hrow hf
 by_cases hfin : (row.length : Int) = (n1 : Int) + 257 + ((n2 : Int) + 1) ∧ wherryref01_makes.f 6000 (row.take (n1 + 257)) = some true ∧ wherryref01_makes.f 6000 (row.drop (n1 + 257)) = some true ∧ rd row 256 ≠ 0
 rotate_left
 ·rw [if_neg hfin] at hf; cases hf
 rw [if_pos hfin] at hf
 obtain ⟨a1, ha1, hi⟩ := Option.bind_eq_some_iff.1 hf
 obtain ⟨a2, ha2, h⟩ := Option.bind_eq_some_iff.1 hi
 clear hf hi
 obtain ⟨f1, f2, f3, f4⟩ := hfin
 obtain ⟨nl, hnl⟩ : ∃ nl : Nat, nl = n1 + 257 := ⟨_, rfl⟩
 obtain ⟨nd, hnd⟩ : ∃ nd : Nat, nd = n2 + 1 := ⟨_, rfl⟩
 rw [← hnl] at f2 f3 ha1 ha2 h
 have H1 := Aside0.mk h1
 have H2 := Aside0.mk h2
 have H3 := Aside0.mk h3
 have HOw := Aside0.mk ho
 have HMk := Aside0.mk hmk
 have HCd := Aside0.mk hcd
 have HRow := Aside0.mk hrow
 have HA1 := Aside0.mk ha1
 have HA2 := Aside0.mk ha2
 have HT := Aside0.mk h
 have HF1 := Aside0.mk f1
 have HF2 := Aside0.mk f2
 have HF3 := Aside0.mk f3
 have HF4 := Aside0.mk f4
 have HR := Aside0.mk hR
 have HB := Aside0.mk hB
 have hw1 : wrap64 ((n1 : Int) + 257) = (nl : Int) := by unfold wrap64; omega
 have hw2 : wrap64 ((n2 : Int) + 1) = (nd : Int) := by unfold wrap64; omega
 have hw3 : wrap64 ((n3 : Int) + 4) = ((n3 + 4 : Nat) : Int) := by unfold wrap64; omega
 have d1 : decide ((286 : Int) < (nl : Int)) = false := decide_eq_false (by omega)
 have d2 : decide ((30 : Int) < (nd : Int)) = false := decide_eq_false (by omega)
 have HNL := Aside0.mk (show nl = n1 + 257 ∧ nd = n2 + 1 ∧ 257 ≤ nl ∧ nl ≤ 286 ∧ 1 ≤ nd ∧ nd ≤ 30 from by omega)
 clear h1 h2 h3 ho hmk hcd hrow ha1 ha2 h f1 f2 f3 f4 hR hB hnl hnd
 go_enter Try.func40, Try.ntmps40
 go_wp2_with fail
 refine (rr_get g b most pos 5 (n1 : Int) p1 out w0 w HR.out HB.out H1.out).mono ?_
 rintro e wa ⟨rfl, hRa, hBa, hKa⟩
 have HRa := Aside0.mk hRa
 have HBa := Aside0.mk hBa
 have HKa := Aside0.mk hKa
 clear hRa hBa hKa HR HB H1
 go_wp2_with fail
 refine (rr_get g b most p1 5 (n2 : Int) p2 out w0 wa HRa.out HBa.out H2.out).mono ?_
 rintro e wb ⟨rfl, hRb, hBb, hKb⟩
 have HRb := Aside0.mk hRb
 have HBb := Aside0.mk hBb
 have HKb := Aside0.mk (HKa.out.trans hKb)
 clear hRb hBb hKb HRa HBa HKa H2
 go_wp2_with fail
 refine (rr_get g b most p2 4 (n3 : Int) p3 out w0 wb HRb.out HBb.out H3.out).mono ?_
 rintro e wc ⟨rfl, hRc, hBc, hKc⟩
 have HRc := Aside0.mk hRc
 have HBc := Aside0.mk hBc
 have HKc := Aside0.mk (HKb.out.trans hKc)
 clear hRc hBc hKc HRb HBb HKb H3
 obtain ⟨A1, c1, A4, c4, hg, hge1, hb, hc, ho⟩ := HRc.out.cells
 have hcz2 : wc.cell? ⟨g, 2, none⟩ = some (.int .i64 0) := (blk_cell hg 2).trans rfl
 clear hg hb ho hc
 go_upto_region 3 with fail
 rw [show (n1 : Int) + 257 = (nl : Int) from by have := HNL.out; omega, show (n2 : Int) + 1 = (nd : Int) from by have := HNL.out; omega]
 go_wp2_with (refine Kd.R_make (Kd.int .i64) (w0 := wc) wc.heap.size 3 rfl rfl 32 (.const (.int .i64 19)) (.const (.int .i64 19)) rfl (19 : Int) rfl rfl Try.underlying32 (.int .i64 0) 8 info3 rfl (by decide) (by decide) (0 : Int) (ok := fun _ => True) (okp := fun _ => False) rfl (fun _ hk => hk.elim) trivial (by omega) (by omega) (Below.refl _ _) (Nat.le_refl _) ?_; intro v1 wB ho hb hg hat; (have HO := Aside0.mk ho); (have HBm := Aside0.mk hb); clear ho hb hg hat)
 rw [show (19 : Int).toNat = 19 from rfl] at HO
 obtain ⟨go, co, e1, hgo1, hgo2, ocs, hocs⟩ := Kd.R_form HO.out (by decide)
 rw [List.length_replicate] at e1
 subst e1
 have HBB := Aside0.mk (show Below w0.heap.size w0 wB from below_then HBc.out HBc.out.size HBm.out)
 have HRB := Aside0.mk (HRc.out.below HBm.out)
 have HKB := Aside0.mk (HKc.out.below HBm.out)
 have HGo := Aside0.mk (show w.heap.size ≤ go ∧ w0.heap.size ≤ go from ⟨Nat.le_trans HKc.out.1 hgo1, Nat.le_trans HBc.out.size hgo1⟩)
 have HGo2 := Aside0.mk hgo2
 clear HRc HBc HKc HBm hocs hgo1 hgo2 hcz2
 refine (wherryref01_order.calls ordR wB order_is).mono ?_
 rintro e w2 ⟨vo, rfl, ho, hb⟩
 obtain ⟨g2, c2, e1, hg1, hg2, ocs2, hocs2⟩ := Kd.R_form ho (by decide)
 subst e1
 have HORD := Aside0.mk (show Kd.R (Kd.int .i64) 3 w2 wB.heap.size (fun _ => True) (.slice (some ⟨g2, 0, none⟩) 19 c2) ordR from ho)
 have HO2 := Aside0.mk (Kd.R_below HO.out hb)
 have HB2 := Aside0.mk (show Below w0.heap.size w0 w2 from below_then HBB.out HBB.out.size hb)
 have HR2 := Aside0.mk (HRB.out.below hb)
 have HK2 := Aside0.mk (HKB.out.below hb)
 have HG2o := Aside0.mk hg1
 clear hb ho hocs2 hg1 hg2 HRB HBB HKB HO
 have hl19 : ordR.length = 19 := rfl
 rw [hl19]
 go_wp2_with fail
 go_loopg [7] (n3 + 4) (fun kq v7 w' => ∃ (i : Nat) (oi : List Int) (pi : Int), v7 = .int .i64 i ∧ i ≤ n3 + 4 ∧ oi.length = 19 ∧ Aside0 (kq + i = n3 + 4) ∧ Aside0 (ownR b (n3 + 4 - i) i oi pi = some (own, p4)) ∧ Aside0 (Kd.R (Kd.int .i64) 3 w' wc.heap.size (fun _ => True) (.slice (some ⟨go, 0, none⟩) 19 co) oi) ∧ Aside0 (Kd.R (Kd.int .i64) 3 w' wB.heap.size (fun _ => True) (.slice (some ⟨g2, 0, none⟩) 19 c2) ordR) ∧ Aside0 (RdrR w0 w' g b most pi out) ∧ Aside0 (Below w0.heap.size w0 w') ∧ Aside0 (KeepR w w'))
 case atStart => exact ⟨0, List.replicate 19 0, p3, rfl, Nat.zero_le _, rfl, ⟨rfl⟩, HOw, HO2, HORD, HR2, HB2, HK2⟩
 case round =>
  clear HOw HO2 HORD HR2 HB2 HK2
  obtain ⟨i, oi, pi, rfl, hi, hol, HG, HL, HO, HORD, HR, HB, HK⟩ := hrel
  obtain ⟨A1, c1, A4, c4, hg, hge1, hb, hc, ho⟩ := HR.out.cells
  have hcz2 : wr.cell? ⟨g, 2, none⟩ = some (.int .i64 0) := (blk_cell hg 2).trans rfl
  clear hg hb ho hc
  by_cases hlt : i < n3 + 4
  ·have dl : decide ((i : Int) < ((n3 + 4 : Nat) : Int)) = true := decide_eq_true (by omega)
   have h := HL.out
   rw [show n3 + 4 - i = (n3 + 4 - i - 1) + 1 from by omega] at h
   unfold ownR at h
   obtain ⟨⟨x, pn⟩, ht, h2⟩ := Option.bind_eq_some_iff.1 h
   have HX := Aside0.mk ht
   have hx := ordR_in ⟨i, by omega⟩
   obtain ⟨qq, hq⟩ : ∃ q : Nat, ordR.getD i 0 = (q : Int) := ⟨(ordR.getD i 0).toNat, by simp only at hx; omega⟩
   have hq19 : qq < 19 := by simp only at hx; omega
   simp only at h2
   rw [hq, Int.toNat_natCast] at h2
   have HN := Aside0.mk h2
   obtain ⟨hcell, _⟩ := Kd.R_celln (0 : Int) HORD.out (i : Int) (by omega) (by show (i : Int) < 19; omega)
   rw [show rdOf (0 : Int) ordR (i : Int) = (qq : Int) from by unfold rdOf; rw [Int.toNat_natCast]; exact hq, Int.toNat_natCast] at hcell
   have hq0 : (0 : Int) ≤ (qq : Int) := by omega
   have hqi : (qq : Int) < 19 := by omega
   have hi0 : (0 : Int) ≤ (i : Int) := by omega
   have hii : (i : Int) < 19 := by omega
   have HQ := Aside0.mk hq
   clear ht h h2 HL hx hq
   go_upto_region 8 with fail
   refine start_ (n := 9) (S := fun w' => w'.cell? ⟨g2, i, none⟩ = some (.int .i64 (qq : Int))) (ds := [8]) #[false, false, false, false, false, false, false, false, false] (by kernel_rfl) rfl rfl (hcell) (fun hHeld => ?_)
   refine pure_ (i := 0) (N := some 51) (v := ?_) (a' := ?_) #[true, false, false, false, false, false, false, false, false] rfl rfl (by kernel_rfl) (fun _ _ _ h => h) (Or.inl ⟨by rfl, ?_⟩) ?_ ?_; rotate_left; (intro w'; go_simp; with_reducible rfl); rotate_left; (simp only [Act.put, setIfInBounds_toArray, set_cons_zero, set_cons_succ, i64_w, i32_w]; rfl)
   refine pure_ (i := 1) (N := some 52) (v := ?_) (a' := ?_) #[true, true, false, false, false, false, false, false, false] rfl rfl (by kernel_rfl) (fun _ _ _ h => h) (Or.inl ⟨by rfl, ?_⟩) ?_ ?_; rotate_left; (intro w'; go_simp; with_reducible rfl); rotate_left; (simp only [Act.put, setIfInBounds_toArray, set_cons_zero, set_cons_succ, i64_w, i32_w]; rfl)
   refine pure_ (i := 2) (N := some 53) (v := ?_) (a' := ?_) #[true, true, true, false, false, false, false, false, false] rfl rfl (by kernel_rfl) (fun _ _ _ h => h) (Or.inl ⟨by rfl, ?_⟩) ?_ ?_; rotate_left; (intro w'; go_simp; with_reducible rfl); rotate_left; (simp only [Act.put, setIfInBounds_toArray, set_cons_zero, set_cons_succ, i64_w, i32_w]; rfl)
   refine pure_ (i := 3) (N := some 54) (v := ?_) (a' := ?_) #[true, true, true, true, false, false, false, false, false] rfl rfl (by kernel_rfl) (fun _ _ _ h => h) (Or.inl ⟨by rfl, ?_⟩) ?_ ?_; rotate_left; (intro w'; go_simp; with_reducible rfl); rotate_left; (simp only [Act.put, setIfInBounds_toArray, set_cons_zero, set_cons_succ, i64_w, i32_w]; rfl)
   refine pure_ (i := 5) (N := some 56) (v := ?_) (a' := ?_) #[true, true, true, true, false, true, false, false, false] rfl rfl (by kernel_rfl) (fun _ _ _ h => h) (Or.inl ⟨by rfl, ?_⟩) ?_ ?_; rotate_left; (intro w'; go_simp; with_reducible rfl); rotate_left; (simp only [Act.put, setIfInBounds_toArray, set_cons_zero, set_cons_succ, i64_w, i32_w]; rfl)
   refine take_ (i := 4) (N := some 55) (v := ?_) (a' := ?_) #[true, true, true, true, true, true, false, false, false] rfl rfl (by kernel_rfl) (fun _ _ _ h => h) (Or.inl ⟨by rfl, ?_⟩) hHeld ?_ ?_; rotate_left; (intro w' s0; go_simp; with_reducible rfl); rotate_left; (simp only [Act.put, setIfInBounds_toArray, set_cons_zero, set_cons_succ, i64_w, i32_w]; rfl)
   refine one_ (i := 6) (N := some 57) #[true, true, true, true, true, true, true, false, false] rfl rfl (by kernel_rfl) (by decide) (fun K hK => ?_)
   refine goes_ Try.func37 (by kernel_rfl) rfl #[.pointer (some ⟨g, 0, none⟩), .int .i64 3] (by rfl) rfl rfl (by simp only [List.map_toArray, List.map_cons, List.map_nil]; rfl) ?_
   with_reducible refine (rr_get g b most pi 3 x pn out w0 wr.drew (HR.out.below (Below.refl _ _).drew) HB.out.drew HX.out).mono ?_
   rintro e w3 ⟨rfl, hR3, hB3, hK3⟩
   refine ⟨_, rfl, ?_⟩
   have HKx := Aside0.mk ((KeepR.of_below (Below.refl _ wr).drew).trans hK3)
   have HR3 := Aside0.mk hR3
   have HB3 := Aside0.mk hB3
   have HO3 := Aside0.mk (introw_keepR HO.out HKx.out)
   have HORD3 := Aside0.mk (introw_keepR HORD.out HKx.out)
   have HK3 := Aside0.mk (HK.out.trans HKx.out)
   have hcell3 := ord_cell HORD3.out hi0 hii HQ.out
   obtain ⟨hoc, hof⟩ := Kd.R_celln (0 : Int) HO3.out (qq : Int) hq0 hqi
   rw [Int.toNat_natCast] at hoc hof
   clear hR3 hB3 hK3
   refine hK.out _ _ (hcell3) (fun hHeld => ?_)
   clear hK K
   refine norm_ (a' := ?_) ?_ ?_
   rotate_left
   ·show Act.put _ (some 57) _ = _
    simp only [Act.put, setIfInBounds_toArray, set_cons_zero, set_cons_succ, i64_w, i32_w]
    rfl
   refine pure_ (i := 7) (N := some 58) (v := ?_) (a' := ?_) #[true, true, true, true, true, true, true, true, false] rfl rfl (by kernel_rfl) (fun _ _ _ h => h) (Or.inl ⟨by rfl, ?_⟩) ?_ ?_; rotate_left; (intro w'; go_simp; with_reducible rfl); rotate_left; (simp only [Act.put, setIfInBounds_toArray, set_cons_zero, set_cons_succ, i64_w, i32_w]; rfl)
   refine last_ (i := 8) (N := none) #[true, true, true, true, true, true, true, true, true] rfl rfl (by kernel_rfl) (by decide) (fun K hK => ?_)
   refine skip_ (w1 := ?_) (by rfl) rfl ?_ ?_
   rotate_left
   ·go_simp
    rfl
   refine hK.out _ _ ?_
   clear hK K
   refine done_ (by kernel_rfl) ?_
   have HP := Aside0.mk (Kd.R_putn HO3.out (qq : Int) x)
   rw [Int.toNat_natCast] at HP
   obtain ⟨cso, hcso⟩ := own_typed (Kd.own_of_R HO3.out) go rfl
   have HRp := Aside0.mk (HR3.out.int_put hcso qq (.int .i64 x))
   have HKp := Aside0.mk (HK3.out.fresh HGo.out.1 qq (.int .i64 x))
   have HBp := Aside0.mk (HB3.out.setCell (p := ⟨go, qq, none⟩) HGo.out.2 (.int .i64 x))
   have HORDp : Aside0 (Kd.R (Kd.int .i64) 3 (w3.setCell ⟨go, qq, none⟩ (.int .i64 x)) wB.heap.size (fun _ => True) (.slice (some ⟨g2, 0, none⟩) 19 c2) ordR) := ⟨Kd.R_of_own (own_move (Kd.own_of_R HORD3.out) fun k hk => Below.heap_setCell w3 ⟨go, qq, none⟩ _ k (by
    have h1 := HG2o.out
    have h2 := HGo2.out
    have h3 : some g2 = some k := hk
    injection h3 with h3
    show k ≠ go
    omega)) (fun _ _ => trivial)⟩
   clear hcso HR3 HB3 HO3 HORD3 HK3 HKx hcell hcell3 hoc hof HR HB HO HORD HK hcz2
   go_wp2_with fail
   go_roundg (gk - 1)
   case measure => have := HG.out; omega
   case rel => exact ⟨i + 1, oi.set qq x, pn, by go_num, by omega, by rw [List.length_set]; exact hol, ⟨by have := HG.out; omega⟩, ⟨by rw [show n3 + 4 - (i + 1) = n3 + 4 - i - 1 from by omega]; exact HN.out⟩, HP, HORDp, HRp, HBp, HKp⟩
  ·obtain rfl : i = n3 + 4 := by omega
   have dl : decide (((n3 + 4 : Nat) : Int) < ((n3 + 4 : Nat) : Int)) = false := decide_eq_false (by omega)
   have h := HL.out
   rw [Nat.sub_self] at h
   unfold ownR at h
   injection h with h
   injection h with h1 h2
   subst h1 h2
   clear HL HORD
   obtain ⟨A1, c1, A4, c4, hg, hge1, hb, hc, ho⟩ := HR.out.cells
   have hcz3 : wr.cell? ⟨g, 2, none⟩ = some (.int .i64 0) := (blk_cell hg 2).trans rfl
   clear hg hb ho hc hcz2
   obtain ⟨mm, hmm⟩ : ∃ mm : Nat, mm = nl + nd := ⟨_, rfl⟩
   have hnn := HNL.out
   have hw4 : wrap64 ((nl : Int) + (nd : Int)) = (mm : Int) := by unfold wrap64; omega
   have hmi : (n1 : Int) + 257 + ((n2 : Int) + 1) = (mm : Int) := by omega
   rw [hmi] at HRow HF1
   have HMM := Aside0.mk hmm
   clear hmm hmi hnn
   have hcc : oi.length ≤ co := by rw [hol]; exact (Kd.R_reads' HO.out).2.1
   have hcall := wherryref01_makes.calls 6000 (some ⟨go, 0, none⟩) co oi true wr (Kd.R_reads' HO.out).2.2 hcc HMk.out
   rw [hol] at hcall
   go_wp2_with fail
   refine hcall.mono ?_
   rintro e wm ⟨rfl, hdm⟩
   have hbm : Below wr.heap.size wr wm := hdm.below
   have HRm := Aside0.mk (HR.out.below hbm)
   have HBm := Aside0.mk (show Below w0.heap.size w0 wm from below_then HB.out HB.out.size hbm)
   have HOm := Aside0.mk (Kd.R_below HO.out hbm)
   have HKm := Aside0.mk (HK.out.below hbm)
   clear hbm hdm hcall HR HB HO HK HMk hcz3
   go_wp2_with fail
   have hcall := wherryref01_codes.calls 8000 (some ⟨go, 0, none⟩) co oi c wm (Kd.R_reads' HOm.out).2.2 hcc HCd.out
   rw [hol] at hcall
   refine hcall.mono ?_
   rintro e wK ⟨vc, rfl, hcR, hbK⟩
   obtain ⟨Ac, cc, e8⟩ := Kd.R_slice hcR
   subst e8
   have HRk := Aside0.mk (HRm.out.below hbK)
   have HBk := Aside0.mk (show Below w0.heap.size w0 wK from below_then HBm.out HBm.out.size hbK)
   have HOk := Aside0.mk (Kd.R_below HOm.out hbK)
   have HKk := Aside0.mk (HKm.out.below hbK)
   have HCk := Aside0.mk hcR
   clear hbK hcR hcall HRm HBm HOm HKm HCd
   go_wp2_with fail
   go_loopg [9] 400 (fun kq v9 w' => ∃ (ri : List Int) (pj : Int), Aside0 (rowR oi c b (mm : Int) kq ri pj = some (row, p5)) ∧ Aside0 (Kd.R (Kd.int .i64) 3 w' w0.heap.size (fun k => wK.heap.size ≤ k) v9 ri) ∧ Aside0 (RdrR w0 w' g b most pj out) ∧ Aside0 (Below w0.heap.size w0 w') ∧ Aside0 (KeepR wK w'))
   case atStart => exact ⟨[], pi, HRow, ⟨Kd.R_nil _ _ _ _ _⟩, HRk, HBk, ⟨KeepR.refl _⟩⟩
   case round =>
    clear HRow HRk HBk
    obtain ⟨ri, pj, HL, HO, HR, HB, HK⟩ := hrel
    obtain ⟨A9, c9, e9⟩ := Kd.R_slice HO.out
    subst e9
    have h := HL.out
    match gk, h with
    | 0, h => unfold rowR at h; cases h
    | n + 1, h =>
     unfold rowR at h
     obtain ⟨A1, c1, A4, c4, hg, hge1, hb, hc, ho⟩ := HR.out.cells
     have hcz2 : wr.cell? ⟨g, 2, none⟩ = some (.int .i64 0) := (blk_cell hg 2).trans rfl
     clear hg hb ho hc
     by_cases hlt : (ri.length : Int) < (mm : Int)
     rotate_left
     ·rw [if_neg hlt] at h
      injection h with h
      injection h with h1 h2
      subst h1 h2
      have d0 : decide ((ri.length : Int) < (mm : Int)) = false := decide_eq_false hlt
      have d0b : decide (ri.length < mm) = false := decide_eq_false (by omega)
      have hnn := HNL.out
      have hrl : ri.length = mm := by have := HF1.out; omega
      have hmn := HMM.out
      have d6 : ((ri.length : Int) == (mm : Int)) = true := beq_iff_eq.2 (by omega)
      have d6b : (ri.length == mm) = true := beq_iff_eq.2 hrl
      have d6c : (ri.length : Int) = (mm : Int) := by omega
      have hcr : (ri.length : Int) ≤ (c9 : Int) := by have := (Kd.R_reads' HO.out).2.1; omega
      have hcp : (nl : Int) ≤ (c9 : Int) := by omega
      have hp0 : (0 : Int) ≤ (nl : Int) := by omega
      have hp1 : (nl : Int) ≤ (ri.length : Int) := by omega
      clear HL hnn hrl hmn
      go_wp2_with fail
      have HCS := Aside0.mk (show ∀ W' : World, Kd.R (Kd.int .i64) 3 W' w0.heap.size (fun k => wK.heap.size ≤ k) (.slice A9 ri.length c9) ri → Kd.C (Kd.int .i64) W' A9 (ri.take nl).length (ri.take nl) ∧ Kd.C (Kd.int .i64) W' (if c9 = nl then A9 else Option.map (fun x => x.add nl) A9) (ri.drop nl).length (ri.drop nl) from by
       intro W' hW
       obtain ⟨_, g1, g2⟩ := Kd.R_reads' hW
       have hle : nl ≤ ri.length := by omega
       have h1 := Kd.C_take (m := nl) g2 hle
       have h2 := Kd.C_drop (m := nl) (c := c9) g2 hle g1
       refine ⟨h1, ?_⟩
       simpa [Kd.sz, Kd.int, Kd.scalar] using h2)
      have htk : (ri.take nl).length = nl := by rw [List.length_take]; omega
      have hdk : (ri.drop nl).length = ri.length - nl := List.length_drop
      have hcall := wherryref01_makes.calls 6000 A9 c9 (ri.take nl) true wr (HCS.out wr HO.out).1 (by rw [htk]; omega) HF2.out
      rw [htk] at hcall
      refine hcall.mono ?_
      rintro e wm ⟨rfl, hdm⟩
      have hbm : Below wr.heap.size wr wm := hdm.below
      have HRm := Aside0.mk (HR.out.below hbm)
      have HBm := Aside0.mk (show Below w0.heap.size w0 wm from below_then HB.out HB.out.size hbm)
      have HOm := Aside0.mk (Kd.R_below HO.out hbm)
      have HKm := Aside0.mk (HK.out.below hbm)
      clear hbm hdm hcall HR HB HO HK HF2 hcz2
      go_wp2_with fail
      case inl => exfalso; have := HNL.out; have := HMM.out; omega
      have hne : ¬ c9 = nl := by have := HNL.out; have := HMM.out; omega
      have hcall := wherryref01_makes.calls 6000 (Option.map (fun x => x.add nl) A9) (c9 - nl) (ri.drop nl) true wm (by have h1 := (HCS.out wm HOm.out).2; rw [if_neg hne] at h1; exact h1) (by rw [hdk]; omega) HF3.out
      rw [hdk] at hcall
      refine hcall.mono ?_
      rintro e wn ⟨rfl, hdm⟩
      have hbm : Below wm.heap.size wm wn := hdm.below
      have HRn := Aside0.mk (HRm.out.below hbm)
      have HBn := Aside0.mk (show Below w0.heap.size w0 wn from below_then HBm.out HBm.out.size hbm)
      have HOn := Aside0.mk (Kd.R_below HOm.out hbm)
      have HKn := Aside0.mk (HKm.out.below hbm)
      clear hbm hdm hcall HRm HBm HOm HKm HF3
      have h256 : (256 : Int) < (ri.length : Int) := by have := HNL.out; have := HMM.out; omega
      obtain ⟨gr, cr, e8, _, _, _, _⟩ := Kd.R_form HOn.out (by omega)
      injection e8 with e8 _ e9
      subst e8 e9
      obtain ⟨hcell, _⟩ := Kd.R_celln (0 : Int) HOn.out (256 : Int) (by decide) h256
      obtain ⟨x, hx⟩ : ∃ x, rd ri (256 : Int) = x := ⟨_, rfl⟩
      have hx0 := HF4.out
      rw [show rdOf (0 : Int) ri (256 : Int) = rd ri (256 : Int) from rfl, hx] at hcell
      rw [hx] at hx0
      rw [show (256 : Int).toNat = 256 from rfl] at hcell
      have hx1 : (x == 0) = false := beq_eq_false_iff_ne.2 hx0
      clear hx hx0 HF4
      go_upto_region 30 with fail
      clear d6 d6b d6c d0 d0b
      have hn0 : ¬ nl = 0 := by have := HNL.out; omega
      have HWn := Aside0.mk (KeepR.of_below (Below.refl _ wn).drew)
      have hcall := rr_text g b most pj q out out' (some ⟨gr, 0, none⟩) c9 (ri.take nl) (some ⟨gr, nl, none⟩) (c9 - nl) (ri.drop nl) a1 a2 N w0 wn.drew (HRn.out.below (Below.refl _ _).drew) HBn.out.drew (fun W hW => (HCS.out W (introw_keepR (Kd.R_drew HOn.out) hW)).1) (by rw [htk]; omega) (fun W hW => by simpa [hne, hn0, Addr.add] using (HCS.out W (introw_keepR (Kd.R_drew HOn.out) hW)).2) (by rw [hdk]; omega) HA1.out HA2.out HT.out
      rw [htk, hdk] at hcall
      have HCALL := Aside0.mk hcall
      clear hcall htk hdk hcell hx1 h256 HA1 HA2 HT
      refine start_ (n := 8) (S := fun w' => True) (ds := []) #[false, false, false, false, false, false, false, false] (by kernel_rfl) rfl rfl (trivial) (fun hHeld => ?_)
      refine pure_ (i := 0) (N := some 168) (v := ?_) (a' := ?_) #[true, false, false, false, false, false, false, false] rfl rfl (by kernel_rfl) (fun _ _ _ h => h) (Or.inl ⟨by rfl, ?_⟩) ?_ ?_; rotate_left; (intro w'; go_simp; with_reducible rfl); rotate_left; (simp only [Act.put, setIfInBounds_toArray, set_cons_zero, set_cons_succ, i64_w, i32_w]; rfl)
      refine pure_ (i := 1) (N := some 169) (v := ?_) (a' := ?_) #[true, true, false, false, false, false, false, false] rfl rfl (by kernel_rfl) (fun _ _ _ h => h) (Or.inl ⟨by rfl, ?_⟩) ?_ ?_; rotate_left; (intro w'; go_simp; with_reducible rfl); rotate_left; (simp only [Act.put, setIfInBounds_toArray, set_cons_zero, set_cons_succ, i64_w, i32_w]; rfl)
      refine pure_ (i := 2) (N := some 170) (v := ?_) (a' := ?_) #[true, true, true, false, false, false, false, false] rfl rfl (by kernel_rfl) (fun _ _ _ h => h) (Or.inl ⟨by rfl, ?_⟩) ?_ ?_; rotate_left; (intro w'; go_simp; with_reducible rfl); rotate_left; (simp only [Act.put, setIfInBounds_toArray, set_cons_zero, set_cons_succ, i64_w, i32_w]; rfl)
      refine pure_ (i := 3) (N := some 171) (v := ?_) (a' := ?_) #[true, true, true, true, false, false, false, false] rfl rfl (by kernel_rfl) (fun _ _ _ h => h) (Or.inl ⟨by rfl, ?_⟩) ?_ ?_; rotate_left; (intro w'; go_simp; with_reducible rfl); rotate_left; (simp only [Act.put, setIfInBounds_toArray, set_cons_zero, set_cons_succ, i64_w, i32_w]; rfl)
      refine pure_ (i := 4) (N := some 172) (v := ?_) (a' := ?_) #[true, true, true, true, true, false, false, false] rfl rfl (by kernel_rfl) (fun _ _ _ h => h) (Or.inl ⟨by rfl, ?_⟩) ?_ ?_; rotate_left; (intro w'; go_simp; with_reducible rfl); rotate_left; (simp only [Act.put, setIfInBounds_toArray, set_cons_zero, set_cons_succ, i64_w, i32_w]; rfl)
      refine pure_ (i := 5) (N := some 173) (v := ?_) (a' := ?_) #[true, true, true, true, true, true, false, false] rfl rfl (by kernel_rfl) (fun _ _ _ h => h) (Or.inl ⟨by rfl, ?_⟩) ?_ ?_; rotate_left; (intro w'; go_simp; with_reducible rfl); rotate_left; (simp only [Act.put, setIfInBounds_toArray, set_cons_zero, set_cons_succ, i64_w, i32_w]; rfl)
      refine pure_ (i := 6) (N := some 174) (v := ?_) (a' := ?_) #[true, true, true, true, true, true, true, false] rfl rfl (by kernel_rfl) (fun _ _ _ h => h) (Or.inl ⟨by rfl, ?_⟩) ?_ ?_; rotate_left; (intro w'; go_simp; with_reducible rfl); rotate_left; (simp only [Act.put, setIfInBounds_toArray, set_cons_zero, set_cons_succ, i64_w, i32_w]; rfl)
      refine one_ (i := 7) (N := some 175) #[true, true, true, true, true, true, true, true] rfl rfl (by kernel_rfl) (by decide) (fun K hK => ?_)
      refine goes_ Try.func39 (by kernel_rfl) rfl #[.pointer (some ⟨g, 0, none⟩), .slice (some ⟨gr, 0, none⟩) nl c9, .slice (some ⟨gr, nl, none⟩) (ri.length - nl) (c9 - nl)] (by rfl) rfl rfl (by simp only [List.map_toArray, List.map_cons, List.map_nil]; rfl) ?_
      with_reducible refine (HCALL.out).mono ?_
      rintro e w3 ⟨rfl, hR3, hB3, hK3⟩
      refine ⟨_, rfl, ?_⟩
      refine hK.out _ _ (trivial) (fun hHeld => ?_)
      clear hK K
      refine norm_ (a' := ?_) ?_ ?_
      rotate_left
      ·show Act.put _ (some 175) _ = _
       simp only [Act.put, setIfInBounds_toArray, set_cons_zero, set_cons_succ, i64_w, i32_w]
       rfl
      refine done_ (by kernel_rfl) ?_
      go_wp2_with fail
      first
       | go_end0
       | refine bodyPost_ret (results_none rfl _ _ _) rfl ?_
      exact ⟨rfl, hR3, hB3, ((HKk.out.trans HKn.out).trans HWn.out).trans hK3⟩
     rw [if_pos hlt] at h
     have d0 : decide ((ri.length : Int) < (mm : Int)) = true := decide_eq_true hlt
     have d0b : decide (ri.length < mm) = true := decide_eq_true (by omega)
     obtain ⟨⟨y, p6⟩, hs, h⟩ := Option.bind_eq_some_iff.1 h
     have HS := Aside0.mk hs
     have H1 := Aside0.mk h
     clear hs h HL hlt
     go_wp2_with fail
     have hown := introw_keepR HOk.out HK.out
     have hcd := introw_keepR HCk.out HK.out
     have hcall := rr_sym g b most pj y p6 out (some ⟨go, 0, none⟩) co oi Ac cc c w0 wr HR.out HB.out (Kd.R_reads' hown).2.2 hcc (Kd.R_reads' hcd).2.2 (Kd.R_reads' hcd).2.1 HS.out
     rw [hol] at hcall
     refine hcall.mono ?_
     rintro e w1 ⟨rfl, hR1, hB1, hK1⟩
     have HR1 := Aside0.mk hR1
     have HB1 := Aside0.mk hB1
     have HO1 := Aside0.mk (introw_keepR HO.out hK1)
     have HK1 := Aside0.mk (HK.out.trans hK1)
     clear hR1 hB1 hK1 HR HB HK HO hcz2 d0 hown hcd hcall
     go_upto_block 4 with fail
     go_cut [10, 11, 12, 91] (fun v10 v11 v12 v91 wc => ∃ (v k p7 : Int), v11 = .int .i64 v ∧ v12 = .int .i64 k ∧ Aside0 (rowS (rowR oi c b (mm : Int) n) ri v k p7 = some (row, p5)) ∧ Aside0 (Kd.R (Kd.int .i64) 3 wc w0.heap.size (fun k => wK.heap.size ≤ k) (.slice A9 ri.length c9) ri) ∧ Aside0 (RdrR w0 wc g b most p7 out) ∧ Aside0 (Below w0.heap.size w0 wc) ∧ Aside0 (KeepR wK wc))
     case first =>
      have h := H1.out
      by_cases h16 : y = 16
      ·have d3 : (y == 16) = true := beq_iff_eq.2 h16
       rw [if_pos h16] at h
       by_cases hlo : 0 < ri.length
       rotate_left
       ·rw [if_neg hlo] at h; cases h
       rw [if_pos hlo] at h
       obtain ⟨⟨v3, p7⟩, ht, h⟩ := Option.bind_eq_some_iff.1 h
       have HT3 := Aside0.mk ht
       by_cases hsm : ri.length ≤ 1000
       rotate_left
       ·unfold rowS at h; rw [if_neg (fun hh => hsm hh.2.2)] at h; cases h
       obtain ⟨k, hk⟩ : ∃ k, ri.length = k + 1 := ⟨ri.length - 1, by omega⟩
       have hke : (ri.length : Int) - 1 = (k : Int) := by omega
       have hk0 : (0 : Int) ≤ (k : Int) := by omega
       have hk1 : (k : Int) < (ri.length : Int) := by omega
       rw [hke] at h
       obtain ⟨ad, e8, hcell⟩ := Kd.at_int (Kd.R_reads' HO1.out).2.2 (k : Int) hk0 hk1
       subst e8
       rw [Int.toNat_natCast] at hcell
       have hw5 : IntKind.i64.wrap ((ri.length : Int) - 1) = (k : Int) := by rw [hke]; exact IntWalk.i64_in (k : Int) (by omega)
       have hw6 : wrap64 ((ri.length : Int) - 1) = (k : Int) := by rw [hke]; unfold wrap64; omega
       have hk2 : ((k : Int)).toNat = k := Int.toNat_natCast k
       have d4 : ((ri.length : Int) == 0) = false := beq_eq_false_iff_ne.2 (by omega)
       have d4b : (ri.length == 0) = false := beq_eq_false_iff_ne.2 (by omega)
       obtain ⟨x, hx⟩ : ∃ x, rd ri (k : Int) = x := ⟨_, rfl⟩
       rw [hx] at hcell h
       have HX := Aside0.mk hx
       have HP := Aside0.mk h
       clear ht h H1 hke hlo hk hx hsm
       go_upto_region 20 with fail
       refine start_ (n := 11) (S := fun w' => w'.cell? (ad.add k) = some (.int .i64 x)) (ds := []) #[false, false, false, false, false, false, false, false, false, false, false] (by kernel_rfl) rfl rfl (hcell) (fun hHeld => ?_)
       refine pure_ (i := 0) (N := some 99) (v := ?_) (a' := ?_) #[true, false, false, false, false, false, false, false, false, false, false] rfl rfl (by kernel_rfl) (fun _ _ _ h => h) (Or.inl ⟨by rfl, ?_⟩) ?_ ?_; rotate_left; (intro w'; go_simp; with_reducible rfl); rotate_left; (simp only [Act.put, setIfInBounds_toArray, set_cons_zero, set_cons_succ, i64_w, i32_w]; rfl)
       refine pure_ (i := 1) (N := some 100) (v := ?_) (a' := ?_) #[true, true, false, false, false, false, false, false, false, false, false] rfl rfl (by kernel_rfl) (fun _ _ _ h => h) (Or.inl ⟨by rfl, ?_⟩) ?_ ?_; rotate_left; (intro w'; go_simp; with_reducible rfl); rotate_left; (simp only [Act.put, setIfInBounds_toArray, set_cons_zero, set_cons_succ, i64_w, i32_w]; rfl)
       refine pure_ (i := 2) (N := some 101) (v := ?_) (a' := ?_) #[true, true, true, false, false, false, false, false, false, false, false] rfl rfl (by kernel_rfl) (fun _ _ _ h => h) (Or.inl ⟨by rfl, ?_⟩) ?_ ?_; rotate_left; (intro w'; go_simp; with_reducible rfl); rotate_left; (simp only [Act.put, setIfInBounds_toArray, set_cons_zero, set_cons_succ, i64_w, i32_w]; rfl)
       refine pure_ (i := 3) (N := some 102) (v := ?_) (a' := ?_) #[true, true, true, true, false, false, false, false, false, false, false] rfl rfl (by kernel_rfl) (fun _ _ _ h => h) (Or.inl ⟨by rfl, ?_⟩) ?_ ?_; rotate_left; (intro w'; go_simp; with_reducible rfl); rotate_left; (simp only [Act.put, setIfInBounds_toArray, set_cons_zero, set_cons_succ, i64_w, i32_w]; rfl)
       refine pure_ (i := 4) (N := some 103) (v := ?_) (a' := ?_) #[true, true, true, true, true, false, false, false, false, false, false] rfl rfl (by kernel_rfl) (fun _ _ _ h => h) (Or.inl ⟨by rfl, ?_⟩) ?_ ?_; rotate_left; (intro w'; go_simp; with_reducible rfl); rotate_left; (simp only [Act.put, setIfInBounds_toArray, set_cons_zero, set_cons_succ, i64_w, i32_w]; rfl)
       refine pure_ (i := 6) (N := some 105) (v := ?_) (a' := ?_) #[true, true, true, true, true, false, true, false, false, false, false] rfl rfl (by kernel_rfl) (fun _ _ _ h => h) (Or.inl ⟨by rfl, ?_⟩) ?_ ?_; rotate_left; (intro w'; go_simp; with_reducible rfl); rotate_left; (simp only [Act.put, setIfInBounds_toArray, set_cons_zero, set_cons_succ, i64_w, i32_w]; rfl)
       refine take_ (i := 5) (N := some 104) (v := ?_) (a' := ?_) #[true, true, true, true, true, true, true, false, false, false, false] rfl rfl (by kernel_rfl) (fun _ _ _ h => h) (Or.inl ⟨by rfl, ?_⟩) hHeld ?_ ?_; rotate_left; (intro w' s0; go_simp; with_reducible rfl); rotate_left; (simp only [Act.put, setIfInBounds_toArray, set_cons_zero, set_cons_succ, i64_w, i32_w]; rfl)
       refine one_ (i := 7) (N := some 106) #[true, true, true, true, true, true, true, true, false, false, false] rfl rfl (by kernel_rfl) (by decide) (fun K hK => ?_)
       refine goes_ Try.func37 (by kernel_rfl) rfl #[.pointer (some ⟨g, 0, none⟩), .int .i64 2] (by rfl) rfl rfl (by simp only [List.map_toArray, List.map_cons, List.map_nil]; rfl) ?_
       with_reducible refine (rr_get g b most p6 2 v3 p7 out w0 w1.drew (HR1.out.below (Below.refl _ _).drew) HB1.out.drew HT3.out).mono ?_
       rintro e w3 ⟨rfl, hR3, hB3, hK3⟩
       refine ⟨_, rfl, ?_⟩
       have HKx := Aside0.mk ((KeepR.of_below (Below.refl _ w1).drew).trans hK3)
       have HR3 := Aside0.mk hR3
       have HB3 := Aside0.mk hB3
       have HO3 := Aside0.mk (introw_keepR HO1.out HKx.out)
       have HK3 := Aside0.mk (HK1.out.trans HKx.out)
       obtain ⟨ad3, ea3, hcell3⟩ := Kd.at_int (Kd.R_reads' HO3.out).2.2 (k : Int) hk0 hk1
       cases ea3
       rw [Int.toNat_natCast, HX.out] at hcell3
       clear hR3 hB3 hK3
       refine hK.out _ _ (hcell3) (fun hHeld => ?_)
       clear hK K
       refine norm_ (a' := ?_) ?_ ?_
       rotate_left
       ·show Act.put _ (some 106) _ = _
        simp only [Act.put, setIfInBounds_toArray, set_cons_zero, set_cons_succ, i64_w, i32_w]
        rfl
       refine pure_ (i := 8) (N := some 107) (v := ?_) (a' := ?_) #[true, true, true, true, true, true, true, true, true, false, false] rfl rfl (by kernel_rfl) (fun _ _ _ h => h) (Or.inl ⟨by rfl, ?_⟩) ?_ ?_; rotate_left; (intro w'; go_simp; with_reducible rfl); rotate_left; (simp only [Act.put, setIfInBounds_toArray, set_cons_zero, set_cons_succ, i64_w, i32_w]; rfl)
       refine pure_ (i := 9) (N := some 11) (v := ?_) (a' := ?_) #[true, true, true, true, true, true, true, true, true, true, false] rfl rfl (by kernel_rfl) (fun _ _ _ h => h) (Or.inl ⟨by rfl, ?_⟩) ?_ ?_; rotate_left; (intro w'; go_simp; with_reducible rfl); rotate_left; (simp only [Act.put, setIfInBounds_toArray, set_cons_zero, set_cons_succ, i64_w, i32_w]; rfl)
       refine pure_ (i := 10) (N := some 12) (v := ?_) (a' := ?_) #[true, true, true, true, true, true, true, true, true, true, true] rfl rfl (by kernel_rfl) (fun _ _ _ h => h) (Or.inl ⟨by rfl, ?_⟩) ?_ ?_; rotate_left; (intro w'; go_simp; with_reducible rfl); rotate_left; (simp only [Act.put, setIfInBounds_toArray, set_cons_zero, set_cons_succ, i64_w, i32_w]; rfl)
       refine done_ (by kernel_rfl) ?_
       clear hw5 hw6 hk0 hk1 hk2 hcell hcell3 d4 d4b
       go_wp2_with fail
       go_meet
       case rel => exact ⟨x, _, p7, rfl, rfl, HP, HO3, HR3, HB3, HK3⟩
      rw [if_neg h16] at h
      have d3 : (y == 16) = false := beq_eq_false_iff_ne.2 h16
      by_cases h17 : y = 17
      ·have d4 : (y == 17) = true := beq_iff_eq.2 h17
       rw [if_pos h17] at h
       obtain ⟨⟨v3, p7⟩, ht, h⟩ := Option.bind_eq_some_iff.1 h
       have HT3 := Aside0.mk ht
       have HP := Aside0.mk h
       clear ht h H1
       go_wp2_with fail
       refine (rr_get g b most p6 3 v3 p7 out w0 w1 HR1.out HB1.out HT3.out).mono ?_
       rintro e w2 ⟨rfl, hR2, hB2, hK2⟩
       have HR2 := Aside0.mk hR2
       have HB2 := Aside0.mk hB2
       have HO2 := Aside0.mk (introw_keepR HO1.out hK2)
       have HK2 := Aside0.mk (HK1.out.trans hK2)
       clear hR2 hB2 hK2 HR1 HB1 HK1 HO1
       go_wp2_with fail
       go_meet
       case rel => exact ⟨0, _, p7, rfl, rfl, HP, HO2, HR2, HB2, HK2⟩
      rw [if_neg h17] at h
      have d4 : (y == 17) = false := beq_eq_false_iff_ne.2 h17
      by_cases h18 : y = 18
      ·have d5 : (y == 18) = true := beq_iff_eq.2 h18
       rw [if_pos h18] at h
       obtain ⟨⟨v3, p7⟩, ht, h⟩ := Option.bind_eq_some_iff.1 h
       have HT3 := Aside0.mk ht
       have HP := Aside0.mk h
       clear ht h H1
       go_wp2_with fail
       refine (rr_get g b most p6 7 v3 p7 out w0 w1 HR1.out HB1.out HT3.out).mono ?_
       rintro e w2 ⟨rfl, hR2, hB2, hK2⟩
       have HR2 := Aside0.mk hR2
       have HB2 := Aside0.mk hB2
       have HO2 := Aside0.mk (introw_keepR HO1.out hK2)
       have HK2 := Aside0.mk (HK1.out.trans hK2)
       clear hR2 hB2 hK2 HR1 HB1 HK1 HO1
       go_wp2_with fail
       go_meet
       case rel => exact ⟨0, _, p7, rfl, rfl, HP, HO2, HR2, HB2, HK2⟩
      rw [if_neg h18] at h
      have d5 : (y == 18) = false := beq_eq_false_iff_ne.2 h18
      have HP := Aside0.mk h
      clear h H1
      go_wp2_with fail
      go_meet
      case rel => exact ⟨y, 1, p6, rfl, rfl, HP, HO1, HR1, HB1, HK1⟩
     case rest =>
      clear H1 HR1 HB1 HO1 HK1 HS
      obtain ⟨v, c4, p7, rfl, rfl, HP, HO, HR, HB, HK⟩ := hcut
      have h := HP.out
      unfold rowS at h
      by_cases hr : 0 ≤ c4 ∧ c4 ≤ 1000 ∧ ri.length ≤ 1000
      rotate_left
      ·rw [if_neg hr] at h; cases h
      rw [if_pos hr] at h
      obtain ⟨m, rfl⟩ : ∃ m : Nat, c4 = (m : Int) := ⟨c4.toNat, by omega⟩
      rw [Int.toNat_natCast] at h
      have hm : m ≤ 1000 := by omega
      have HOL := Aside0.mk hr.2.2
      have HL := Aside0.mk h
      clear h HP hr
      go_wp2_with fail
      go_loopg [9, 12] m (fun kq v9 v12 w' => ∃ (i : Nat) (rj : List Int), v12 = .int .i64 i ∧ i ≤ m ∧ Aside0 (kq = i) ∧ Aside0 (rj = ri ++ List.replicate (m - i) v) ∧ Aside0 (Kd.R (Kd.int .i64) 3 w' w0.heap.size (fun k => wK.heap.size ≤ k) v9 rj) ∧ Aside0 (RdrR w0 w' g b most p7 out) ∧ Aside0 (Below w0.heap.size w0 w') ∧ Aside0 (KeepR wK w'))
      case atStart => exact ⟨m, ri, rfl, Nat.le_refl _, ⟨rfl⟩, ⟨by simp⟩, HO, HR, HB, HK⟩
      case round =>
       clear HO HR HB HK
       obtain ⟨i, rj, rfl, hi, HG, HJ, HO, HR, HB, HK⟩ := hrel
       obtain ⟨A9, c9, e9⟩ := Kd.R_slice HO.out
       subst e9
       obtain ⟨A1, c1, A4, c4, hg, hge1, hb, hc, ho⟩ := HR.out.cells
       have hcz2 : wr.cell? ⟨g, 2, none⟩ = some (.int .i64 0) := (blk_cell hg 2).trans rfl
       clear hg hb ho hc
       by_cases hlt : 0 < i
       ·have dl : decide ((0 : Int) < (i : Int)) = true := decide_eq_true (by omega)
        have dlb : decide (0 < i) = true := decide_eq_true hlt
        have hwd : wrap64 ((i : Int) - 1) = ((i - 1 : Nat) : Int) := by unfold wrap64; omega
        have HJL := Aside0.mk (show rj.length ≤ 2000 by rw [HJ.out, List.length_append, List.length_replicate]; have := HOL.out; omega)
        go_wp2_with ((with_reducible refine gate_builtin (b := .append) (xs := #[.tmp 129, .tmp 131]) rfl ?_); at_builtin; refine Kd.R_append (Kd.int .i64) (w0 := w0) w0.heap.size rfl (.tmp 129) (.tmp 131) 32 3 (.int .i64 0) 8 rfl Try.underlying32 info3 rfl (by decide) (by omega) (.slice A9 rj.length c9) rj v [.int .i64 v] (fun k => wK.heap.size ≤ k) (fun _ => False) rfl rfl rfl (fun _ hk => hk.elim) (fun k hk => Nat.le_trans HK.out.1 hk) HO.out HB.out HB.out.size (by have := HJL.out; omega) ?_; intro v5 w6 ho hb hg hat; (have HN5 := Aside0.mk (And.intro ho (And.intro hb hg))); clear ho hb hg hat)
        obtain ⟨ho, hb, hgr⟩ := HN5.out
        have hty := own_typed (Kd.own_of_R HO.out)
        go_roundg (gk - 1)
        case measure => have := HG.out; omega
        case rel => exact ⟨i - 1, _, by go_num, by omega, ⟨by have := HG.out; omega⟩, ⟨by rw [HJ.out, show m - (i - 1) = (m - i) + 1 from by omega, List.replicate_succ', List.append_assoc]⟩, ⟨ho⟩, ⟨HR.out.grown hgr fun p hp => hty p hp⟩, ⟨hb⟩, ⟨HK.out.grown_fresh hgr fun p hp => HO.out.1 p hp⟩⟩
       ·obtain rfl : i = 0 := by omega
        have dl : decide ((0 : Int) < ((0 : Nat) : Int)) = false := decide_eq_false (by omega)
        have hj := HJ.out
        rw [Nat.sub_zero] at hj
        subst hj
        go_wp2_with fail
        go_roundg n
        case measure => omega
        case rel => exact ⟨_, _, HL, HO, HR, HB, HK⟩

end Go.Proofs.Ytlffpaploefljaa.P
