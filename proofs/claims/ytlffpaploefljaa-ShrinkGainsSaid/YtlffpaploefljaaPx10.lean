-- Written by a program of this session out of the translation. Lean checks it.
import Derived.Test.YtlffpaploefljaaPx0
import Derived.Test.YtlffpaploefljaaPx1
namespace Go.Proofs.Ytlffpaploefljaa.P
open Go.RowKit Go.Proofs.YtlffpaploefljaaW.PrintWords Go.Proofs.YtlffpaploefljaaW.PrintLast Go.Proofs.YtlffpaploefljaaW.PrintMore
open List (setIfInBounds_toArray set_cons_zero set_cons_succ)
attribute [local go_sem] max2_int min2_int max_two min_two max_three min_three max_four min_four   -- for this text's walks alone
set_option linter.unusedVariables false
set_option linter.unusedSimpArgs false

/-! ### canon_right: function 107 -/
def canon_right.l0 : Nat → List Int → Int → Int → Option (Bool)
 | 0, _, _, _ => none
 | k + 1, x8, x9, x10 => if x10 < x9 then (if 0 ≤ x10 then (if x10 < (x8.length : Int) then (if (rd x8 x10) < 0 then (some false) else (if (rd x8 x10) > 15 then (some false) else (canon_right.l0 k x8 x9 (wrap64 (x10 + 1))))) else (none)) else (none)) else (some true)
def canon_right.f (k : Nat) (l0 : List Int) : Option (Bool) := if (l0.length : Int) > 300 then (some false) else (canon_right.l0 k l0 (l0.length : Int) 0)
set_option maxHeartbeats 8000000 in
set_option maxRecDepth 100000 in
theorem canon_right.calls (k : Nat) (A0 : Option Addr) (c0 : Nat) (l0 : List Int) (r : Bool) (w : World) (hr0 : Kd.C (Kd.int .i64) w A0 l0.length l0) (hc0 : l0.length ≤ c0) (h : canon_right.f k l0 = some r) :
  Calls Try.prog 107 #[.slice A0 l0.length c0] w fun e w' => e = .returned (.bool r) ∧ Drawn0 w w' := by
 have HR0 := Aside0.mk hr0
 have HC0 := Aside0.mk hc0
 clear hr0 hc0
 have H : (if (l0.length : Int) > 300 then (some false) else (canon_right.l0 k l0 (l0.length : Int) 0)) = some r := h
 clear h
 by_cases c2 : (l0.length : Int) > 300
 ·rw [if_pos c2] at H
  have c2b0 : decide (300 < (l0.length : Int)) = true := decide_eq_true c2
  have c2b1 : decide (300 < l0.length) = true := decide_eq_true (by omega)
  clear c2
  obtain rfl := Option.some.inj H
  go_enter Try.func107, Try.ntmps107
  go_wp2
  go_ret
  exact ⟨by first | rfl | (simp; done) | (simp [*]; done), by repeat (first | exact Drawn0.refl _ | apply Drawn0.step)⟩
 ·rw [if_neg c2] at H
  have c2b0 : decide (300 < (l0.length : Int)) = false := decide_eq_false c2
  have c2b1 : decide (300 < l0.length) = false := decide_eq_false (by omega)
  clear c2
  have H' := Aside0.mk H
  clear H
  go_enter Try.func107, Try.ntmps107
  go_wp2
  go_loopg [10] k (fun kq v10 w' => ∃ (x10_1 : Int), v10 = .int .i64 x10_1 ∧ Aside0 (canon_right.l0 kq l0 (l0.length : Int) x10_1 = some r) ∧ Aside0 (kq ≤ k) ∧ Drawn0 w w')
  case atStart => exact ⟨(0), (by first | rfl | (simp; done) | (simp [*]; done)), H', ⟨Nat.le_refl _⟩, by repeat (first | exact Drawn0.refl _ | apply Drawn0.step)⟩
  case round =>
   clear H'
   try clear c1
   try clear c2
   try clear c2b0
   try clear c2b1
   try clear p2
   obtain ⟨x10_1, rfl, HA, HK1, ⟨m1, rfl⟩⟩ := hrel
   cases gk with
   | zero => exact absurd HA.out (by simp [canon_right.l0])
   | succ k1 =>
    have H := HA.out
    clear HA
    simp only [canon_right.l0] at H
    by_cases c3 : x10_1 < (l0.length : Int)
    ·rw [if_pos c3] at H
     have c3b0 : decide (x10_1 < (l0.length : Int)) = true := decide_eq_true c3
     clear c3
     by_cases c4 : 0 ≤ x10_1
     ·rw [if_pos c4] at H
      have c4b0 : decide (0 ≤ x10_1) = true := decide_eq_true c4
      clear c4
      by_cases c5 : x10_1 < (l0.length : Int)
      ·rw [if_pos c5] at H
       have c5b0 : decide (x10_1 < (l0.length : Int)) = true := decide_eq_true c5
       clear c5
       by_cases c6 : (rd l0 x10_1) < 0
       ·rw [if_pos c6] at H
        have c6b0 : decide ((rd l0 x10_1) < 0) = true := decide_eq_true c6
        clear c6
        obtain rfl := Option.some.inj H
        have p118 : 0 ≤ (x10_1 : Int) := of_decide_eq_true (by first | (with_reducible assumption) | assumption)
        have q118 : x10_1 < (l0.length : Int) := of_decide_eq_true (by first | (with_reducible assumption) | assumption)
        obtain ⟨ad118, e118, hx118_0⟩ := Kd.at_int HR0.out x10_1 p118 q118
        cases e118
        replace p118 := eq_true p118
        replace q118 := eq_true q118
        go_wp2
        go_ret
        exact ⟨by first | rfl | (simp; done) | (simp [*]; done), by repeat (first | exact Drawn0.refl _ | apply Drawn0.step)⟩
       ·rw [if_neg c6] at H
        have c6b0 : decide ((rd l0 x10_1) < 0) = false := decide_eq_false c6
        clear c6
        by_cases c7 : (rd l0 x10_1) > 15
        ·rw [if_pos c7] at H
         have c7b0 : decide (15 < (rd l0 x10_1)) = true := decide_eq_true c7
         clear c7
         obtain rfl := Option.some.inj H
         have p118 : 0 ≤ (x10_1 : Int) := of_decide_eq_true (by first | (with_reducible assumption) | assumption)
         have q118 : x10_1 < (l0.length : Int) := of_decide_eq_true (by first | (with_reducible assumption) | assumption)
         obtain ⟨ad118, e118, hx118_0⟩ := Kd.at_int HR0.out x10_1 p118 q118
         cases e118
         replace p118 := eq_true p118
         replace q118 := eq_true q118
         go_wp2
         go_ret
         exact ⟨by first | rfl | (simp; done) | (simp [*]; done), by repeat (first | exact Drawn0.refl _ | apply Drawn0.step)⟩
        ·rw [if_neg c7] at H
         have c7b0 : decide (15 < (rd l0 x10_1)) = false := decide_eq_false c7
         clear c7
         have H' := Aside0.mk H
         clear H
         have p118 : 0 ≤ (x10_1 : Int) := of_decide_eq_true (by first | (with_reducible assumption) | assumption)
         have q118 : x10_1 < (l0.length : Int) := of_decide_eq_true (by first | (with_reducible assumption) | assumption)
         obtain ⟨ad118, e118, hx118_0⟩ := Kd.at_int HR0.out x10_1 p118 q118
         cases e118
         replace p118 := eq_true p118
         replace q118 := eq_true q118
         go_wp2
         go_roundg k1
         case measure => have := HK1.out; omega
         case rel => exact ⟨(wrap64 (x10_1 + 1)), (by first | rfl | (simp; done) | (simp [*]; done)), H', ⟨by have := HK1.out; omega⟩, by repeat (first | exact Drawn0.refl _ | apply Drawn0.step)⟩
      ·rw [if_neg c5] at H
       exact absurd H (by simp)
     ·rw [if_neg c4] at H
      exact absurd H (by simp)
    ·rw [if_neg c3] at H
     have c3b0 : decide (x10_1 < (l0.length : Int)) = false := decide_eq_false c3
     clear c3
     obtain rfl := Option.some.inj H
     go_wp2
     go_ret
     exact ⟨by first | rfl | (simp; done) | (simp [*]; done), by repeat (first | exact Drawn0.refl _ | apply Drawn0.step)⟩

/-! ### canon_Book_weight: function 108 (by hand) -/
/-- What so many codes of each length weigh, up to a length; how many there are. -/
def weighTo (c : Nat → Nat) : Nat → Nat
 | 0 => 0
 | n + 1 => weighTo c n + c (n + 1) * 2 ^ (15 - (n + 1))
def allTo (c : Nat → Nat) : Nat → Nat
 | 0 => 0
 | n + 1 => allTo c n + c (n + 1)
theorem weighTo_le (c : Nat → Nat) (T : Nat) (hc : ∀ n, c n ≤ T) : ∀ n, weighTo c n ≤ n * (T * 32768)
 | 0 => by simp [weighTo]
 | n + 1 => by
  have ih := weighTo_le c T hc n
  have h1 : 2 ^ (15 - (n + 1)) ≤ 2 ^ 15 := Nat.pow_le_pow_right (by decide) (by omega)
  have h2 := Nat.mul_le_mul (hc (n + 1)) h1
  simp only [weighTo]
  rw [Nat.add_mul]
  omega
theorem allTo_le (c : Nat → Nat) (T : Nat) (hc : ∀ n, c n ≤ T) : ∀ n, allTo c n ≤ n * T
 | 0 => by simp [allTo]
 | n + 1 => by
  have ih := allTo_le c T hc n
  have := hc (n + 1)
  simp only [allTo]
  rw [Nat.add_mul]
  omega
set_option maxHeartbeats 8000000 in
set_option maxRecDepth 100000 in
theorem book_weight (base g : Nat) (F : Nat → Int) (S : Nat → List Int) (w : World) (hb : BookAt w base g F S) (hS : ∀ n, (S n).length ≤ 1000000) :
  Calls Try.prog 108 #[.pointer (some ⟨g, 0, none⟩)] w fun e w' => e = .returned (.tuple #[.int .i64 (weighTo (fun n => (S n).length) 15), .int .i64 (allTo (fun n => (S n).length) 15)]) ∧ w' = w := by
 have HB := Aside0.mk hb
 have HW := Aside0.mk (weighTo_le (fun n => (S n).length) 1000000 hS)
 have HA := Aside0.mk (allTo_le (fun n => (S n).length) 1000000 hS)
 have HS := Aside0.mk hS
 clear hb hS
 go_enter Try.func108, Try.ntmps108
 go_wp2_with fail
 go_loop [2, 3, 4] (fun v2 v3 v4 => ∃ n : Nat, n ≤ 15 ∧ v2 = .int .i64 (weighTo (fun n => (S n).length) n) ∧ v3 = .int .i64 (allTo (fun n => (S n).length) n) ∧ v4 = .int .i64 ((n : Int) + 1)) (fun _ _ v4 => (16 - intOf v4).toNat)
 case atStart => exact ⟨0, by omega, rfl, rfl, rfl⟩
 case round =>
  obtain ⟨n, hn, rfl, rfl, rfl⟩ := hrel
  by_cases hlt : n < 15
  ·obtain ⟨hm1, hm2⟩ := HB.out.many (n + 1) (by omega)
   have hw0 := HW.out n
   have hw1 := HW.out (n + 1)
   have ha0 := HA.out n
   have hc := HS.out (n + 1)
   have E1 := Aside0.mk (show weighTo (fun n => (S n).length) (n + 1) = weighTo (fun n => (S n).length) n + (S (n + 1)).length * 2 ^ (15 - (n + 1)) from rfl)
   have E2 := Aside0.mk (show allTo (fun n => (S n).length) (n + 1) = allTo (fun n => (S n).length) n + (S (n + 1)).length from rfl)
   go_wp2_with fail
   have e1 : ((S (n + 1)).length : Int) * 2 ^ (14 - n) = (((S (n + 1)).length * 2 ^ (15 - (n + 1)) : Nat) : Int) := by rw [show 15 - (n + 1) = 14 - n from by omega]; simp
   have e2 := E1.out
   have e3 := E2.out
   have hp : (S (n + 1)).length * 2 ^ (15 - (n + 1)) ≤ 1000000 * 32768 := Nat.mul_le_mul hc (by have := Nat.pow_le_pow_right (n := 2) (by decide) (show 15 - (n + 1) ≤ 15 by omega); simpa using this)
   refine ⟨⟨n + 1, by omega, ?_, by rw [e3]; go_num, by go_num⟩, by simp [intOf]; omega⟩
   rw [e1, e2]
   generalize (S (n + 1)).length * 2 ^ (15 - (n + 1)) = q at *
   have : wrap64 (q : Int) = q := by unfold wrap64; omega
   rw [this]
   have : wrap64 ((weighTo (fun n => (S n).length) n : Int) + q) = (weighTo (fun n => (S n).length) n : Int) + q := by unfold wrap64; omega
   rw [this]
   rfl
  ·have hn2 : n = 15 := by omega
   subst hn2
   go_wp2_with fail
   go_ret2
   exact ⟨rfl, rfl⟩

/-! ### canon_Check: function 93 (by hand) -/
/-- Are lengths right? -/
def rightB (l : List Int) : Bool := decide (l.length ≤ 300) && l.all (fun x => decide (0 ≤ x) && decide (x ≤ 15))
theorem rightB_iff (l : List Int) : rightB l = true ↔ l.length ≤ 300 ∧ ∀ x ∈ l, 0 ≤ x ∧ x ≤ 15 := by
 unfold rightB
 simp [List.all_eq_true]
theorem right_loop (l : List Int) (hl : l.length ≤ 300) : ∀ (d i k : Nat), i + d = l.length → d < k → canon_right.l0 k l (l.length : Int) (i : Int) = some ((l.drop i).all (fun x => decide (0 ≤ x) && decide (x ≤ 15))) := by
 intro d
 induction d with
 | zero =>
  intro i k hi hk
  obtain ⟨k, rfl⟩ : ∃ m, k = m + 1 := ⟨k - 1, by omega⟩
  simp only [canon_right.l0]
  rw [if_neg (by omega), List.drop_of_length_le (by omega)]
  rfl
 | succ d ih =>
  intro i k hi hk
  obtain ⟨k, rfl⟩ : ∃ m, k = m + 1 := ⟨k - 1, by omega⟩
  have hlt : i < l.length := by omega
  simp only [canon_right.l0]
  rw [if_pos (by omega), if_pos (by omega), if_pos (by omega), show wrap64 ((i : Int) + 1) = ((i + 1 : Nat) : Int) from by unfold wrap64; omega]
  have e : rd l (i : Int) = l[i] := by unfold rd; rw [Int.toNat_natCast, List.getD_eq_getElem?_getD, List.getElem?_eq_getElem hlt]; rfl
  rw [List.drop_eq_getElem_cons hlt, List.all_cons, e]
  by_cases h0 : l[i] < 0
  ·rw [if_pos h0, decide_eq_false (by omega)]; rfl
  ·rw [if_neg h0]
   by_cases h1 : l[i] > 15
   ·rw [if_pos h1, decide_eq_true (by omega), decide_eq_false (by omega)]; rfl
   ·rw [if_neg h1, ih (i + 1) k (by omega) (by omega), decide_eq_true (by omega), decide_eq_true (by omega)]; rfl
theorem right_is (l : List Int) : canon_right.f 400 l = some (rightB l) := by
 unfold canon_right.f rightB
 by_cases h : l.length ≤ 300
 ·rw [if_neg (by omega), decide_eq_true h]
  have := right_loop l h l.length 0 400 (by omega) (by omega)
  simpa using this
 ·rw [if_pos (by omega), decide_eq_false h]; rfl
/-- What lengths weigh; how many codes there are; how many of one bit. -/
def cW (l : List Int) : Nat := weighTo (fun n => (symsTo l l.length n).length) 15
def cA (l : List Int) : Nat := allTo (fun n => (symsTo l l.length n).length) 15
def makesB (l : List Int) : Bool := cW l == 32768 || (cA l == 0 || (cA l == 1 && (symsTo l l.length 1).length == 1))
def canon_Check.f (l0 : List Int) : Option (Int) := some (if rightB l0 then (if makesB l0 then 0 else 4) else 1)
theorem check_right0 {l : List Int} (h : canon_Check.f l = some 0) : l.length ≤ 300 ∧ ∀ x ∈ l, 0 ≤ x ∧ x ≤ 15 := by
 unfold canon_Check.f at h
 by_cases hr : rightB l = true
 ·exact (rightB_iff l).1 hr
 ·rw [if_neg hr] at h; simp at h
set_option maxHeartbeats 8000000 in
set_option maxRecDepth 100000 in
theorem canon_Check.calls (A0 : Option Addr) (c0 : Nat) (l0 : List Int) (r : Int) (w : World) (hr0 : Kd.C (Kd.int .i64) w A0 l0.length l0) (hc0 : l0.length ≤ c0) (h : canon_Check.f l0 = some r) :
  Calls Try.prog 93 #[.slice A0 l0.length c0] w fun e w' => e = .returned (.int .i64 r) ∧ Below w.heap.size w w' := by
 have HR := Aside0.mk hr0
 have HC := Aside0.mk hc0
 have H := Aside0.mk h
 clear hr0 hc0 h
 obtain ⟨q, hq⟩ : ∃ q, q = rightB l0 := ⟨_, rfl⟩
 have HQ := Aside0.mk hq
 clear hq
 go_enter Try.func93, Try.ntmps93
 go_wp2_with fail
 refine (canon_right.calls 400 _ _ l0 q w HR.out HC.out (by rw [HQ.out]; exact right_is l0)).mono ?_
 rintro e1 w1 ⟨rfl, hd⟩
 cases q with
 | false =>
  go_wp2_with fail
  go_ret
  have h := H.out
  unfold canon_Check.f at h
  rw [← HQ.out] at h
  simp at h
  subst h
  exact ⟨rfl, hd.below⟩
 | true =>
  obtain ⟨h1, h2⟩ := (rightB_iff l0).1 HQ.out.symm
  have HX := Aside0.mk h2
  clear h2
  go_wp2_with fail
  refine (open_book _ _ l0 w1 (Kd.C_below HR.out hd.below) HC.out HX.out (by omega)).mono ?_
  rintro e2 w2 ⟨g, rfl, hb, hbl⟩
  have HB := Aside0.mk hb
  have HL := Aside0.mk (And.intro hd hbl)
  clear hb hd hbl
  go_wp2_with fail
  refine (book_weight _ g _ _ w2 HB.out (fun n => Nat.le_trans (symsTo_len _ _ _) (by omega))).mono ?_
  rintro e3 w3 ⟨rfl, rfl⟩
  have h := H.out
  unfold canon_Check.f makesB cW cA at h
  rw [← HQ.out, if_pos rfl] at h
  injection h with h
  have H3 := Aside0.mk h
  clear h
  obtain ⟨hm1, hm2⟩ := HB.out.many 1 (by omega)
  generalize weighTo (fun n => (symsTo l0 l0.length n).length) 15 = W at *
  generalize allTo (fun n => (symsTo l0 l0.length n).length) 15 = A at *
  generalize (symsTo l0 l0.length 1).length = O at *
  by_cases b1 : W = 32768
  ·subst b1
   go_wp2_with fail
   go_ret
   exact ⟨by rw [← H3.out]; rfl, below_then HL.out.1.below HL.out.1.below.size HL.out.2⟩
  ·have d1 : ((W : Int) == 32768) = false := by rw [beq_eq_false_iff_ne]; omega
   by_cases b2 : A = 0
   ·subst b2
    go_wp2_with fail
    go_ret
    exact ⟨by rw [← H3.out, show (W == 32768) = false from beq_eq_false_iff_ne.2 b1]; rfl, below_then HL.out.1.below HL.out.1.below.size HL.out.2⟩
   ·have d2 : ((A : Int) == 0) = false := by rw [beq_eq_false_iff_ne]; omega
    by_cases b3 : A = 1
    ·subst b3
     by_cases b4 : O = 1
     ·subst b4
      go_wp2_with fail
      go_ret
      exact ⟨by rw [← H3.out, show (W == 32768) = false from beq_eq_false_iff_ne.2 b1]; rfl, below_then HL.out.1.below HL.out.1.below.size HL.out.2⟩
     ·have d4 : ((O : Int) == 1) = false := by rw [beq_eq_false_iff_ne]; omega
      go_wp2_with fail
      go_ret
      exact ⟨by rw [← H3.out, show (W == 32768) = false from beq_eq_false_iff_ne.2 b1, show (O == 1) = false from beq_eq_false_iff_ne.2 b4]; rfl, below_then HL.out.1.below HL.out.1.below.size HL.out.2⟩
    ·have d3 : ((A : Int) == 1) = false := by rw [beq_eq_false_iff_ne]; omega
     go_wp2_with fail
     go_ret
     exact ⟨by rw [← H3.out, show (W == 32768) = false from beq_eq_false_iff_ne.2 b1, show (A == 0) = false from beq_eq_false_iff_ne.2 b2, show (A == 1) = false from beq_eq_false_iff_ne.2 b3]; rfl, below_then HL.out.1.below HL.out.1.below.size HL.out.2⟩

/-! ### canon_Codes: function 68 (by hand) -/
/-- A symbol's code: the first one of its length, and one more for each symbol ahead of that length. -/
def codeOf (l : List Int) (j : Nat) : Int := if l.getD j 0 ≤ 0 then 0 else (openF l (l.getD j 0).toNat : Int) + (symsTo l j (l.getD j 0).toNat).length
def codesTo (l : List Int) (n i : Nat) : List Int := (List.range l.length).map (fun j => if (l.getD j 0).toNat < n ∨ (l.getD j 0 = (n : Int) ∧ (symsTo l j n).length < i) then codeOf l j else 0)
def codesL (l : List Int) : List Int := (List.range l.length).map (codeOf l)
theorem BookAt.lt {W : World} {base g : Nat} {F : Nat → Int} {S : Nat → List Int} (h : BookAt W base g F S) : g < W.heap.size := by
 obtain ⟨cs, V, h1, _⟩ := h
 exact blk_lt h1
def canon_Codes.f (l0 : List Int) : Option (List Int × Int) := (canon_Check.f l0).bind fun e => if e = 0 then some (codesL l0, 0) else some ([], e)
theorem symsTo_mono (l : List Int) (n : Nat) : ∀ (d j : Nat), (symsTo l j n).length ≤ (symsTo l (j + d) n).length
 | 0, j => Nat.le_refl _
 | d + 1, j => by
  refine Nat.le_trans (symsTo_mono l n d j) ?_
  rw [show j + (d + 1) = (j + d) + 1 from rfl, symsTo_step, List.length_append]
  omega
theorem symsTo_rank (l : List Int) {j L n : Nat} (hj : j < L) (hn : l.getD j 0 = (n : Int)) (h0 : 0 < n) : (symsTo l j n).length < (symsTo l L n).length := by
 have h := symsTo_mono l n (L - (j + 1)) (j + 1)
 rw [show j + 1 + (L - (j + 1)) = L from by omega, symsTo_step, if_pos ⟨hn, h0⟩, List.length_append] at h
 simp at h
 omega
theorem symsTo_uniq (l : List Int) {j j' n : Nat} (hn : l.getD j 0 = (n : Int)) (hn' : l.getD j' 0 = (n : Int)) (h0 : 0 < n) (h : (symsTo l j n).length = (symsTo l j' n).length) : j = j' := by
 rcases Nat.lt_trichotomy j j' with h1 | h1 | h1
 ·have := symsTo_rank l h1 hn h0; omega
 ·exact h1
 ·have := symsTo_rank l h1 hn' h0; omega
theorem symsTo_at (l : List Int) (n i : Nat) : ∀ L, i < (symsTo l L n).length → ∃ j, j < L ∧ (symsTo l L n).getD i 0 = (j : Int) ∧ l.getD j 0 = (n : Int) ∧ 0 < n ∧ (symsTo l j n).length = i
 | 0, h => by simp [symsTo] at h
 | L + 1, h => by
  rw [symsTo_step] at h ⊢
  by_cases hc : l.getD L 0 = (n : Int) ∧ 0 < n
  ·rw [if_pos hc] at h ⊢
   rw [List.length_append, List.length_singleton] at h
   by_cases hi : i < (symsTo l L n).length
   ·obtain ⟨j, hj, e, h1, h2, h3⟩ := symsTo_at l n i L hi
    refine ⟨j, by omega, ?_, h1, h2, h3⟩
    rw [List.getD_eq_getElem?_getD, List.getElem?_append_left hi, ← List.getD_eq_getElem?_getD]; exact e
   ·obtain rfl : i = (symsTo l L n).length := by omega
    exact ⟨L, by omega, by simp, hc.1, hc.2, rfl⟩
  ·rw [if_neg hc, List.append_nil] at h ⊢
   obtain ⟨j, hj, e, h1⟩ := symsTo_at l n i L h
   exact ⟨j, by omega, e, h1⟩
theorem codesTo_start (l : List Int) : codesTo l 0 0 = List.replicate l.length 0 := by
 unfold codesTo
 rw [List.map_congr_left (g := fun _ => (0 : Int)) (fun j _ => if_neg (by omega)), List.map_const', List.length_range]
theorem codesTo_next (l : List Int) (n : Nat) (hx : ∀ x ∈ l, 0 ≤ x ∧ x ≤ 15) : codesTo l n (symsTo l l.length n).length = codesTo l (n + 1) 0 := by
 unfold codesTo
 refine List.map_congr_left (fun j hj => ?_)
 have hj := List.mem_range.1 hj
 have hxj : 0 ≤ l.getD j 0 := by
  rw [List.getD_eq_getElem?_getD, List.getElem?_eq_getElem hj]
  exact (hx _ (List.getElem_mem hj)).1
 by_cases h1 : (l.getD j 0).toNat < n
 ·rw [if_pos (.inl h1), if_pos (.inl (by omega))]
 ·by_cases h2 : l.getD j 0 = (n : Int)
  ·by_cases h0 : 0 < n
   ·rw [if_pos (.inr ⟨h2, symsTo_rank l hj h2 h0⟩), if_pos (.inl (by omega))]
   ·have hz : l.getD j 0 = 0 := by omega
    rw [if_pos (.inl (by omega) : (l.getD j 0).toNat < n + 1 ∨ _)]
    have : codeOf l j = 0 := by unfold codeOf; rw [if_pos (by omega)]
    rw [this, ite_self]
  ·rw [if_neg (by omega), if_neg (by omega)]
theorem map_range_set (f : Nat → Int) (L j0 : Nat) (v : Int) : ((List.range L).map f).set j0 v = (List.range L).map (fun j => if j = j0 then v else f j) := by
 apply List.ext_getElem
 ·simp
 ·intro j h1 h2
  rw [List.getElem_set]
  simp only [List.getElem_map, List.getElem_range]
  by_cases h : j0 = j
  ·rw [if_pos h, if_pos h.symm]
  ·rw [if_neg h, if_neg (fun e => h e.symm)]
theorem codesTo_step (l : List Int) {n i j0 : Nat} (hj : l.getD j0 0 = (n : Int)) (h0 : 0 < n) (hr : (symsTo l j0 n).length = i) : (codesTo l n i).set j0 ((openF l n : Int) + i) = codesTo l n (i + 1) := by
 unfold codesTo
 rw [map_range_set]
 refine List.map_congr_left (fun j _ => ?_)
 by_cases h : j = j0
 ·subst h
  rw [if_pos rfl, if_pos (.inr ⟨hj, by omega⟩)]
  unfold codeOf
  rw [if_neg (by omega), hj, Int.toNat_natCast, hr]
 ·rw [if_neg h]
  by_cases h1 : (l.getD j 0).toNat < n
  ·rw [if_pos (.inl h1), if_pos (.inl h1)]
  ·by_cases h2 : l.getD j 0 = (n : Int)
   ·have hne : (symsTo l j n).length ≠ i := fun e => h (symsTo_uniq l h2 hj h0 (e.trans hr.symm))
    by_cases h3 : (symsTo l j n).length < i
    ·rw [if_pos (.inr ⟨h2, h3⟩), if_pos (.inr ⟨h2, by omega⟩)]
    ·rw [if_neg (by omega), if_neg (by omega)]
   ·rw [if_neg (by omega), if_neg (by omega)]
theorem codesTo_end (l : List Int) (hx : ∀ x ∈ l, 0 ≤ x ∧ x ≤ 15) : codesTo l 17 0 = codesL l := by
 unfold codesTo codesL
 refine List.map_congr_left (fun j hj => ?_)
 have hj := List.mem_range.1 hj
 have hxj : l.getD j 0 ≤ 15 := by
  rw [List.getD_eq_getElem?_getD, List.getElem?_eq_getElem hj]
  exact (hx _ (List.getElem_mem hj)).2
 rw [if_pos (.inl (by omega))]
theorem codesTo_length (l : List Int) (n i : Nat) : (codesTo l n i).length = l.length := by unfold codesTo; simp
theorem openF_le (l : List Int) (hl : l.length ≤ 1000000) : ∀ n, n ≤ 16 → openF l n ≤ 65536 * 1000000 := by
 intro n hn
 cases n with
 | zero => simp [openF, firstOf]
 | succ n =>
  have h1 := firstOf_le (fun n => (symsTo l l.length n).length) 1000000 (fun n => Nat.le_trans (symsTo_len _ _ _) hl) n
  have h2 : 2 ^ (n + 1) ≤ 2 ^ 16 := Nat.pow_le_pow_right (by decide) hn
  have h3 := Nat.mul_le_mul_right 1000000 h2
  unfold openF
  omega
set_option maxHeartbeats 8000000 in
set_option maxRecDepth 100000 in
theorem canon_Codes.calls (A0 : Option Addr) (c0 : Nat) (l0 : List Int) (r1 : List Int) (r2 : Int) (w : World) (hr0 : Kd.C (Kd.int .i64) w A0 l0.length l0) (hc0 : l0.length ≤ c0) (h : canon_Codes.f l0 = some (r1, r2)) :
  Calls Try.prog 68 #[.slice A0 l0.length c0] w fun e w' => ∃ v0_ : Value, e = .returned (.tuple #[v0_, .int .i64 r2]) ∧ Kd.R (Kd.int .i64) 3 w' w.heap.size (fun _ => True) v0_ r1 ∧ Below w.heap.size w w' := by
 have HR := Aside0.mk hr0
 have HC := Aside0.mk hc0
 unfold canon_Codes.f at h
 obtain ⟨q, hq, h⟩ := Option.bind_eq_some_iff.1 h
 have HQ := Aside0.mk hq
 have H := Aside0.mk h
 clear hr0 hc0 h hq
 go_enter Try.func68, Try.ntmps68
 go_wp2_with fail
 refine (canon_Check.calls _ _ l0 q w HR.out HC.out HQ.out).mono ?_
 rintro e1 w1 ⟨rfl, hd⟩
 have HD := Aside0.mk hd
 clear hd
 by_cases hq0 : q = 0
 ·subst hq0
  have h := H.out
  rw [if_pos rfl] at h
  simp only [Option.some.injEq, Prod.mk.injEq] at h
  obtain ⟨rfl, rfl⟩ := h
  obtain ⟨hx1, hx2⟩ := check_right0 HQ.out
  have HX := Aside0.mk hx2
  clear H hx2
  go_wp2_with fail
  refine (open_book _ _ l0 w1 (Kd.C_below HR.out HD.out) HC.out HX.out (by omega)).mono ?_
  rintro e2 w2 ⟨g, rfl, hb2, hbl⟩
  have HB := Aside0.mk hb2
  have HL := Aside0.mk (below_then HD.out HD.out.size hbl)
  have HSz := Aside0.mk HL.out.size
  have HG := Aside0.mk hb2.lt
  clear hb2 hbl
  go_wp2_with (refine Kd.R_make (Kd.int .i64) (w0 := w2) w2.heap.size 3 rfl rfl 32 (.tmp 18) (.tmp 18) rfl (l0.length : Int) rfl rfl Try.underlying32 (.int .i64 0) 8 info3 rfl (by decide) (by decide) (0 : Int) (ok := fun _ => True) (okp := fun _ => False) rfl (fun _ hk => hk.elim) trivial (by omega) (by omega) (Below.refl _ _) (Nat.le_refl _) ?_; intro v1 w3 ho hb hg hat; (have HO := Aside0.mk ho); (have HB3 := Aside0.mk hb); clear ho hb hg hat)
  rw [Int.toNat_natCast, ← codesTo_start] at HO
  go_loopg [20] 17 (fun kq v20 w' => ∃ n : Nat, v20 = .int .i64 n ∧ n ≤ 17 ∧ Aside0 (kq + n = 17) ∧ Aside0 (Kd.R (Kd.int .i64) 3 w' w2.heap.size (fun _ => True) v1 (codesTo l0 n 0)) ∧ Aside0 (Below w2.heap.size w2 w'))
  case atStart => exact ⟨0, rfl, by omega, ⟨rfl⟩, HO, HB3⟩
  case round =>
   clear HO HB3
   obtain ⟨n, rfl, hn, HN, HO, HB3⟩ := hrel
   obtain ⟨wo, rfl⟩ : ∃ wo : World, wo = wr := ⟨_, rfl⟩
   obtain ⟨ko, rfl⟩ : ∃ ko : Nat, ko = gk := ⟨_, rfl⟩
   by_cases hlt : n < 17
   ·obtain ⟨As, cs, hs1, hs2, hs3⟩ := HB.out.syms n hlt
    obtain ⟨hf1, hf2⟩ := HB.out.first n hlt
    have HF := Aside0.mk hf1
    have HS := Aside0.mk (And.intro hs2 hs3)
    have hSl : (symsTo l0 l0.length n).length ≤ 300 := Nat.le_trans (symsTo_len _ _ _) hx1
    obtain ⟨S, hS⟩ : ∃ S, S = symsTo l0 l0.length n := ⟨_, rfl⟩
    rw [← hS] at hs1 HS hSl
    have HSe := Aside0.mk hS
    replace hs1 := pw_cell_below HB3.out hs1
    clear hs2 hs3 hS hf1 hf2
    have hn17 : (n : Int) < 17 := by omega
    go_wp2_with fail
    go_loopg [30] S.length (fun kq v30 w' => ∃ i : Nat, v30 = .int .i64 i ∧ i ≤ S.length ∧ Aside0 (kq + i = S.length) ∧ Aside0 (Kd.R (Kd.int .i64) 3 w' w2.heap.size (fun _ => True) v1 (codesTo l0 n i)) ∧ Aside0 (Below w2.heap.size w2 w'))
    case atStart => exact ⟨0, rfl, by omega, ⟨rfl⟩, HO, HB3⟩
    case round =>
     clear HO hs1
     obtain ⟨i, rfl, hi, HI, HO, HB4⟩ := hrel
     by_cases hlt2 : i < S.length
     ·obtain ⟨j0, hj0, hje, hjn, hn0, hjr⟩ := symsTo_at l0 n i l0.length (by rw [← HSe.out]; exact hlt2)
      obtain ⟨ad, rfl, hcell⟩ := Kd.at_int (Kd.C_below HS.out.2 HB4.out) (i : Int) (by omega) (by omega)
      rw [Int.toNat_natCast, show rd S (i : Int) = (j0 : Int) from by unfold rd; rw [Int.toNat_natCast, HSe.out]; exact hje] at hcell
      have hff := pw_cell_below HB4.out HF.out
      have hF := openF_le l0 (by omega) n (by omega)
      have hlen := codesTo_length l0 n i
      obtain ⟨go, co, e1, ho1, ho2, _⟩ := Kd.R_form HO.out (by rw [hlen]; omega)
      rw [hlen] at e1
      subst e1
      obtain ⟨q1, q2⟩ := Kd.R_celln 0 HO.out (j0 : Int) (by omega) (by omega)
      have hP := Kd.R_putn HO.out (j0 : Int) ((openF l0 n : Int) + i)
      rw [Int.toNat_natCast] at q1 q2 hP
      rw [codesTo_step l0 hjn hn0 hjr] at hP
      have HP := Aside0.mk hP
      have HE := Aside0.mk (And.intro hje (And.intro hjn (And.intro hn0 (And.intro hjr (And.intro ho1 ho2)))))
      clear hje hjn hn0 hjr hP hlen ho1 ho2
      go_wp2_with fail
      go_roundg (gk - 1)
      case measure => have := HI.out; omega
      case rel => exact ⟨i + 1, by go_num, by omega, ⟨by have := HI.out; omega⟩, HP, ⟨HB4.out.setCell HE.out.2.2.2.2.1 _⟩⟩
     ·have hie : i = S.length := by omega
      subst hie
      have h2 := HO.out
      rw [HSe.out, codesTo_next l0 n HX.out] at h2
      have HO2 := Aside0.mk h2
      clear h2
      go_wp2_with fail
      go_roundg (ko - 1)
      case measure => have := HN.out; omega
      case rel => exact ⟨n + 1, by go_num, by omega, ⟨by have := HN.out; omega⟩, HO2, HB4⟩
   ·have hn2 : n = 17 := by omega
    subst hn2
    go_wp2_with fail
    go_ret2
    have h2 := HO.out
    rw [codesTo_end l0 HX.out] at h2
    exact ⟨_, rfl, Kd.R_lower h2 HSz.out, below_then HL.out HSz.out HB3.out⟩
 ·have h := H.out
  rw [if_neg hq0] at h
  simp only [Option.some.injEq, Prod.mk.injEq] at h
  obtain ⟨rfl, rfl⟩ := h
  have d0 : (q != 0) = true := bne_iff_ne.2 hq0
  go_wp2_with fail
  go_ret2
  exact ⟨_, rfl, Kd.R_nil _ _ _ _ _, HD.out⟩

/-! ### bits_may: function 109 -/
def bits_may.f (a0 : Int) (a1 : Int) : Option (Bool) := if a1 ≥ 0 then (if a1 ≤ 24 then (if a0 ≥ 0 then (if 0 ≤ (IntKind.u64.wrap (a1)) then (some ((shr .i64 a0 (IntKind.u64.wrap (a1))) == 0)) else (none)) else (some false)) else (some false)) else (some false)
set_option maxHeartbeats 8000000 in
set_option maxRecDepth 100000 in
theorem bits_may.calls (a0 : Int) (a1 : Int) (r : Bool) (w : World) (h : bits_may.f a0 a1 = some r) :
  Calls Try.prog 109 #[.int .i64 a0, .int .i64 a1] w fun e w' => e = .returned (.bool r) ∧ Drawn0 w w' := by
 have H : (if a1 ≥ 0 then (if a1 ≤ 24 then (if a0 ≥ 0 then (if 0 ≤ (IntKind.u64.wrap (a1)) then (some ((shr .i64 a0 (IntKind.u64.wrap (a1))) == 0)) else (none)) else (some false)) else (some false)) else (some false)) = some r := h
 clear h
 by_cases c3 : a1 ≥ 0
 ·rw [if_pos c3] at H
  have c3b0 : decide (0 ≤ a1) = true := decide_eq_true c3
  clear c3
  by_cases c4 : a1 ≤ 24
  ·rw [if_pos c4] at H
   have c4b0 : decide (a1 ≤ 24) = true := decide_eq_true c4
   clear c4
   by_cases c5 : a0 ≥ 0
   ·rw [if_pos c5] at H
    have c5b0 : decide (0 ≤ a0) = true := decide_eq_true c5
    clear c5
    obtain ⟨ji6, hji6⟩ : ∃ j_ : Int, (IntKind.u64.wrap (a1)) = j_ := ⟨_, rfl⟩
    replace H : (if 0 ≤ (ji6) then (some ((shr .i64 a0 (ji6)) == 0)) else (none)) = some r := by first | (rw [hji6] at H; exact H) | (simp only [hji6] at H ⊢; exact H)
    by_cases c7 : 0 ≤ (ji6)
    ·rw [if_pos c7] at H
     have c7b0 := eq_true c7
     have c7b1 : decide (0 ≤ (ji6)) = true := decide_eq_true c7
     clear c7
     obtain ⟨ji8, hji8⟩ : ∃ j_ : Int, (shr .i64 a0 (ji6)) = j_ := ⟨_, rfl⟩
     replace H : (some ((ji8) == 0)) = some r := by first | (rw [hji8] at H; exact H) | (simp only [hji8] at H ⊢; exact H)
     have hji8_ : (a0 / 2 ^ min (ji6).toNat 64) = ji8 := hji8
     have hji8z : (ji6) ≤ 64 → (a0 / 2 ^ (ji6).toNat) = ji8 := shr_small hji8
     obtain rfl := Option.some.inj H
     go_enter Try.func109, Try.ntmps109
     go_wp2
     go_ret
     exact ⟨by first | rfl | (simp; done) | (simp only [← hji6, ← hji8] <;> (first | rfl | simp)) | (simp [*]; done), by repeat (first | exact Drawn0.refl _ | apply Drawn0.step)⟩
    ·rw [if_neg c7] at H
     exact absurd H (by simp)
   ·rw [if_neg c5] at H
    have c5b0 : decide (0 ≤ a0) = false := decide_eq_false c5
    clear c5
    obtain rfl := Option.some.inj H
    go_enter Try.func109, Try.ntmps109
    go_wp2
    go_ret
    exact ⟨by first | rfl | (simp; done) | (simp [*]; done), by repeat (first | exact Drawn0.refl _ | apply Drawn0.step)⟩
  ·rw [if_neg c4] at H
   have c4b0 : decide (a1 ≤ 24) = false := decide_eq_false c4
   clear c4
   obtain rfl := Option.some.inj H
   go_enter Try.func109, Try.ntmps109
   go_wp2
   go_ret
   exact ⟨by first | rfl | (simp; done) | (simp [*]; done), by repeat (first | exact Drawn0.refl _ | apply Drawn0.step)⟩
 ·rw [if_neg c3] at H
  have c3b0 : decide (0 ≤ a1) = false := decide_eq_false c3
  clear c3
  obtain rfl := Option.some.inj H
  go_enter Try.func109, Try.ntmps109
  go_wp2
  go_ret
  exact ⟨by first | rfl | (simp; done) | (simp [*]; done), by repeat (first | exact Drawn0.refl _ | apply Drawn0.step)⟩

/-! ### bits_Turn: function 95 -/
def bits_Turn.l0 : Nat → Int → Int → Int → Int → Option (Int × Int)
 | 0, _, _, _, _ => none
 | k + 1, x0, x6, x12, x13 => if x13 < x12 then (if 0 ≤ (IntKind.u64.wrap (x13)) then (bits_Turn.l0 k x0 (Go.bits .or .i64 (wrap64 (x6 * 2)) (Go.bits .and .i64 (shr .i64 x0 (IntKind.u64.wrap (x13))) 1)) x12 (wrap64 (x13 + 1))) else (none)) else (some (x6, 0))
def bits_Turn.f (k : Nat) (a0 : Int) (a1 : Int) : Option (Int × Int) := (bits_may.f a0 a1).bind fun t119 => (if t119 = true then (bits_Turn.l0 k a0 0 a1 0) else (some (0, 1)))
set_option maxHeartbeats 8000000 in
set_option maxRecDepth 100000 in
theorem bits_Turn.calls (k : Nat) (a0 : Int) (a1 : Int) (r1 : Int) (r2 : Int) (w : World) (h : bits_Turn.f k a0 a1 = some (r1, r2)) :
  Calls Try.prog 95 #[.int .i64 a0, .int .i64 a1] w fun e w' => e = .returned (.tuple #[.int .i64 r1, .int .i64 r2]) ∧ Drawn0 w w' := by
 have H : ((bits_may.f a0 a1).bind fun t119 => (if t119 = true then (bits_Turn.l0 k a0 0 a1 0) else (some (0, 1)))) = some (r1, r2) := h
 clear h
 replace H := Option.bind_eq_some_iff.mp H
 obtain ⟨t119, A30, H⟩ := H
 replace H : (if t119 = true then (bits_Turn.l0 k a0 0 a1 0) else (some (0, 1))) = some (r1, r2) := H
 have A3 := Aside0.mk A30
 clear A30
 by_cases c4 : t119 = true
 ·subst c4
  have H1 : (bits_Turn.l0 k a0 0 a1 0) = some (r1, r2) := by rw [if_pos rfl] at H; exact H
  clear H
  have H := H1
  clear H1
  have H' := Aside0.mk H
  clear H
  go_enter Try.func95, Try.ntmps95
  go_wp2_with (first | ((with_reducible refine gate_callee (f := 109) rfl ?_); refine goesL_ (some 10) rfl rfl Try.func109 (by kernel_rfl) rfl #[.int .i64 a0, .int .i64 a1] rfl (by (try simp only [List.map_toArray, List.map_cons, List.map_nil]); first | done | rfl | (simp only [List.length_drop, List.length_take]; rfl)) ?_; (with_reducible refine (bits_may.calls a0 a1 true _ A3.out).mono ?_); rintro e w' ⟨rfl, ⟨nd, rfl⟩⟩; refine ⟨_, rfl, ?_⟩))
  go_loopg [6, 13] k (fun kq v6 v13 w' => ∃ (x6_1 : Int) (x13_1 : Int), v6 = .int .i64 x6_1 ∧ v13 = .int .i64 x13_1 ∧ Aside0 (bits_Turn.l0 kq a0 x6_1 a1 x13_1 = some (r1, r2)) ∧ Aside0 (kq ≤ k) ∧ Drawn0 w w')
  case atStart => exact ⟨(0), (0), (by first | rfl | (simp; done) | (simp [*]; done)), (by first | rfl | (simp; done) | (simp [*]; done)), H', ⟨Nat.le_refl _⟩, by repeat (first | exact Drawn0.refl _ | apply Drawn0.step)⟩
  case round =>
   clear H'
   try clear c1
   try clear p2
   try clear c4
   obtain ⟨x6_1, x13_1, rfl, rfl, HA, HK1, ⟨m1, rfl⟩⟩ := hrel
   cases gk with
   | zero => exact absurd HA.out (by simp [bits_Turn.l0])
   | succ k1 =>
    have H := HA.out
    clear HA
    simp only [bits_Turn.l0] at H
    by_cases c5 : x13_1 < a1
    ·rw [if_pos c5] at H
     have c5b0 : decide (x13_1 < a1) = true := decide_eq_true c5
     clear c5
     obtain ⟨ji6, hji6⟩ : ∃ j_ : Int, (IntKind.u64.wrap (x13_1)) = j_ := ⟨_, rfl⟩
     replace H : (if 0 ≤ (ji6) then (bits_Turn.l0 k1 a0 (Go.bits .or .i64 (wrap64 (x6_1 * 2)) (Go.bits .and .i64 (shr .i64 a0 (ji6)) 1)) a1 (wrap64 (x13_1 + 1))) else (none)) = some (r1, r2) := by first | (rw [hji6] at H; exact H) | (simp only [hji6] at H ⊢; exact H)
     by_cases c7 : 0 ≤ (ji6)
     ·rw [if_pos c7] at H
      have c7b0 := eq_true c7
      have c7b1 : decide (0 ≤ (ji6)) = true := decide_eq_true c7
      clear c7
      obtain ⟨ji8, hji8⟩ : ∃ j_ : Int, (shr .i64 a0 (ji6)) = j_ := ⟨_, rfl⟩
      replace H : (bits_Turn.l0 k1 a0 (Go.bits .or .i64 (wrap64 (x6_1 * 2)) (Go.bits .and .i64 (ji8) 1)) a1 (wrap64 (x13_1 + 1))) = some (r1, r2) := by first | (rw [hji8] at H; exact H) | (simp only [hji8] at H ⊢; exact H)
      have hji8_ : (a0 / 2 ^ min (ji6).toNat 64) = ji8 := hji8
      have hji8z : (ji6) ≤ 64 → (a0 / 2 ^ (ji6).toNat) = ji8 := shr_small hji8
      have H' := Aside0.mk H
      clear H
      go_wp2
      go_roundg k1
      case measure => have := HK1.out; omega
      case rel => exact ⟨(Go.bits .or .i64 (wrap64 (x6_1 * 2)) (Go.bits .and .i64 (ji8) 1)), (wrap64 (x13_1 + 1)), (by first | rfl | (simp; done) | (simp only [← hji8] <;> (first | rfl | simp)) | (simp [*]; done)), (by first | rfl | (simp; done) | (simp [*]; done)), H', ⟨by have := HK1.out; omega⟩, by repeat (first | exact Drawn0.refl _ | apply Drawn0.step)⟩
     ·rw [if_neg c7] at H
      exact absurd H (by simp)
    ·rw [if_neg c5] at H
     have c5b0 : decide (x13_1 < a1) = false := decide_eq_false c5
     clear c5
     simp only [Option.some.injEq, Prod.mk.injEq] at H
     obtain ⟨rfl, rfl⟩ := H
     go_wp2
     go_ret2
     exact ⟨by first | rfl | (simp; done) | (simp [*]; done), by repeat (first | exact Drawn0.refl _ | apply Drawn0.step)⟩
 ·replace c4 := Bool.eq_false_iff.mpr c4
  subst c4
  have H1 : (some (0, 1)) = some (r1, r2) := by rw [if_neg (show ¬ (false = true) by decide)] at H; exact H
  clear H
  have H := H1
  clear H1
  simp only [Option.some.injEq, Prod.mk.injEq] at H
  obtain ⟨rfl, rfl⟩ := H
  go_enter Try.func95, Try.ntmps95
  go_wp2_with (first | ((with_reducible refine gate_callee (f := 109) rfl ?_); refine goesL_ (some 10) rfl rfl Try.func109 (by kernel_rfl) rfl #[.int .i64 a0, .int .i64 a1] rfl (by (try simp only [List.map_toArray, List.map_cons, List.map_nil]); first | done | rfl | (simp only [List.length_drop, List.length_take]; rfl)) ?_; (with_reducible refine (bits_may.calls a0 a1 false _ A3.out).mono ?_); rintro e w' ⟨rfl, ⟨nd, rfl⟩⟩; refine ⟨_, rfl, ?_⟩))
  go_ret2
  exact ⟨by first | rfl | (simp; done) | (simp [*]; done), by repeat (first | exact Drawn0.refl _ | apply Drawn0.step)⟩

/-! ### shrink_pen_code: function 69 (by hand) -/
/-- A code behind a pen's bits. -/
def codeS (codes lens : List Int) (sym : Int) (s : List Int × Nat) : Option (List Int × Nat) :=
 if 0 ≤ sym ∧ sym < codes.length ∧ sym < lens.length then (bits_Turn.f 40 (rd codes sym) (rd lens sym)).bind fun t => addS t.1 (rd lens sym) s else none
set_option maxHeartbeats 8000000 in
set_option maxRecDepth 100000 in
theorem pen_code (g : Nat) (A1 A2 : Option Addr) (c1 c2 : Nat) (codes lens : List Int) (sym : Int) (s s1 : List Int × Nat) (w0 w : World) (hP : PenAt w0 w g s) (hB : Below w0.heap.size w0 w)
  (hr1 : Kd.C (Kd.int .i64) w A1 codes.length codes) (hc1 : codes.length ≤ c1) (hr2 : Kd.C (Kd.int .i64) w A2 lens.length lens) (hc2 : lens.length ≤ c2) (h : codeS codes lens sym s = some s1) :
  Calls Try.prog 69 #[.pointer (some ⟨g, 0, none⟩), .slice A1 codes.length c1, .slice A2 lens.length c2, .int .i64 sym] w fun e w' => e = .returned (.tuple #[]) ∧ PenAt w0 w' g s1 ∧ Below w0.heap.size w0 w' ∧ KeepP w w' := by
 unfold codeS at h
 split at h
 rotate_left
 ·cases h
 rename_i hc
 obtain ⟨⟨v, e⟩, ht, h⟩ := Option.bind_eq_some_iff.1 h
 obtain ⟨ad1, rfl, k1⟩ := Kd.at_int hr1 sym hc.1 hc.2.1
 obtain ⟨ad2, rfl, k2⟩ := Kd.at_int hr2 sym hc.1 hc.2.2
 obtain ⟨hs0, hs1, hs2⟩ := hc
 have HR2 := Aside0.mk hr2
 have HT := Aside0.mk ht
 have HA := Aside0.mk h
 have HP := Aside0.mk hP
 have HB := Aside0.mk hB
 clear hP hB hr1 hr2 ht h
 generalize rd codes sym = x1 at k1 HT
 obtain ⟨x2, hx2⟩ : ∃ x2, x2 = rd lens sym := ⟨_, rfl⟩
 rw [← hx2] at k2 HT HA
 have HX := Aside0.mk hx2
 clear hx2
 go_enter Try.func69, Try.ntmps69
 go_upto_region 0 with fail
 go_region_with (go_at_call 95; refine (bits_Turn.calls 40 x1 x2 v e w.drew HT.out).mono ?_; rintro e w1 ⟨rfl, hb1⟩; have HB1 := Aside0.mk hb1; clear hb1)
 all_goals
  have hb : Below w.heap.size w w1 := ((Below.refl _ w).drew).trans (HB1.out.below)
  have HP1 := Aside0.mk (HP.out.below hb)
  have HB2 := Aside0.mk (below_then HB.out HB.out.size hb)
  have HK1 := Aside0.mk (KeepP.of_below hb)
  obtain ⟨ad3, e3, k3⟩ := Kd.at_int (Kd.C_below HR2.out hb) sym hs0 hs2
  injection e3 with e3
  subst e3
  rw [← HX.out] at k3
  clear HP HB HB1 hb k1 k2 HR2 HX
  go_upto_region 1 with fail
  go_region_with (go_at_call 60; refine (pen_more g v x2 s s1 w0 w1.drew (HP1.out.below (Below.refl _ _).drew) HB2.out.drew HA.out).mono ?_; rintro e w2 ⟨rfl, hP2, hB2, hK2⟩; have HP2 := Aside0.mk hP2; have HB3 := Aside0.mk hB2; have HK2 := Aside0.mk hK2; clear hP2 hB2 hK2)
 all_goals
  go_end0
  exact ⟨rfl, HP2.out, HB3.out, (HK1.out.below (Below.refl _ w1).drew).trans HK2.out⟩

/-! ### sym_lens: function 102 -/
def sym_lens.f  : Option (Int × Int) := some (8, 4)
set_option maxHeartbeats 8000000 in
set_option maxRecDepth 100000 in
theorem sym_lens.calls  (r1 : Int) (r2 : Int) (w : World) (h : sym_lens.f  = some (r1, r2)) :
  Calls Try.prog 102 #[] w fun e w' => e = .returned (.agg #[.int .i64 r1, .int .i64 r2]) ∧ Below w.heap.size w w' := by
 have hu127 := Try.underlying127
 have HB := Aside0.mk (Below.refl w.heap.size w)
 have H : (some (8, 4)) = some (r1, r2) := h
 clear h
 simp only [Option.some.injEq, Prod.mk.injEq] at H
 obtain ⟨rfl, rfl⟩ := H
 go_enter Try.func102, Try.ntmps102
 go_wp2_with (first | ((with_reducible refine gate_dst (N := 0) rfl ?_); refine box_event ?hg (N := 0) ?hd (cs := #[.int .i64 0, .int .i64 0]) (t := 127) ?hr ?_; (case hd => rfl); (case hg => rfl); (case hr => first | (go_simp; done) | (go_simp; rfl)); intro gb120 hg w1 hbox hb; have n0_ := Aside0.mk (below_step (by repeat (first | (with_reducible first | exact HB.out | apply below_alloc | apply pw_below_drewN | apply below_drew1) | exact HB.out)) hb); have n1_ := Aside0.mk (hbox); have n2_ := Aside0.mk ((by rw [hg]; exact (below_size (by repeat (first | (with_reducible first | exact HB.out | apply below_alloc | apply pw_below_drewN | apply below_drew1) | exact HB.out))) : w.heap.size ≤ gb120)); have n3_ := Aside0.mk ((by rw [hg]; exact (below_size (by repeat (first | (with_reducible first | exact HB.out | apply below_alloc | apply pw_below_drewN | apply below_drew1) | exact HB.out))) : w.heap.size ≤ gb120)); clear HB; have HB := n0_; have BK120 := n1_; have GW120 := n2_; have GE120 := n3_; clear n0_ n1_ n2_ n3_; clear hb hbox hg; have hcz2_0 : w1.cell? ⟨gb120, 0, none⟩ = some (.int .i64 0) := (blk_cell BK120.out 0).trans rfl; have hcz2_1 : w1.cell? ⟨gb120, 1, none⟩ = some (.int .i64 0) := (blk_cell BK120.out 1).trans rfl; have hfz2_0 := blk_frozen BK120.out 0; have hfz2_1 := blk_frozen BK120.out 1))
 refine bodyPost_ret (results_cell_row rfl _ _ gb120 127 #[.int .i64 8, .int .i64 4] (0, 0) _ rfl (by (with_reducible repeat (first | refine blk_drewN ?_ _ | refine blk_drew ?_ | refine blk_alloc ?_ _)); refine blk_put (cs := #[.int .i64 8, .int .i64 0]) ?_ 1 _ rfl; (with_reducible repeat (first | refine blk_drewN ?_ _ | refine blk_drew ?_ | refine blk_alloc ?_ _)); refine blk_put (cs := #[.int .i64 0, .int .i64 0]) ?_ 0 _ rfl; (with_reducible repeat (first | refine blk_drewN ?_ _ | refine blk_drew ?_ | refine blk_alloc ?_ _)); exact BK120.out) Try.underlying127 rfl (by kernel_rfl)) rfl ?_
 exact ⟨by first | rfl | (simp [errW_none, errW_some] <;> rfl) | (simp [*, errW_none, errW_some] <;> rfl), by repeat (first | (with_reducible first | exact HB.out | apply below_alloc | apply pw_below_drewN | apply below_drew1 | refine below_set ?_ GE120.out) | exact HB.out)⟩

/-! ### sym_scale_of: function 112 -/
def sym_scale_of.l0 : Nat → Int → Int → Int → Int → Int → Int → Option (Int × Int)
 | 0, _, _, _, _, _, _ => none
 | k + 1, x1, x4, x5, x6, x122000, x122001 => if x6 < x1 then (if x122001 = 0 then (none) else (if 0 ≤ (IntKind.u64.wrap (wrap64 (1 + (wrap64 (Int.tdiv (wrap64 (x6 - x122000)) x122001))))) then (sym_scale_of.l0 k x1 (wrap64 (x4 + (shl .i64 1 (IntKind.u64.wrap (wrap64 (1 + (wrap64 (Int.tdiv (wrap64 (x6 - x122000)) x122001)))))))) x5 (wrap64 (x6 + 1)) x122000 x122001) else (none))) else (if x1 ≥ x122000 then (if x122001 = 0 then (none) else (some (x4, wrap64 (1 + (wrap64 (Int.tdiv (wrap64 (x1 - x122000)) x122001)))))) else (some (x4, x5)))
def sym_scale_of.f (k : Nat) (a0_0 : Int) (a0_1 : Int) (a1 : Int) : Option (Int × Int) := sym_scale_of.l0 k a1 (mn a1 a0_0) 0 a0_0 a0_0 a0_1
theorem sym_scale_of.mono_l : ∀ k, (∀ y0 y1 y2 y3 y4 y5, LeO (sym_scale_of.l0 k y0 y1 y2 y3 y4 y5) (sym_scale_of.l0 (k + 1) y0 y1 y2 y3 y4 y5))
 | 0 => fun _ _ _ _ _ _ r h => by simp [sym_scale_of.l0] at h
 | k + 1 => by
  have ih0 := sym_scale_of.mono_l k
  ·intro y0 y1 y2 y3 y4 y5
   unfold sym_scale_of.l0
   repeat' first
   | (with_reducible exact ih0 _ _ _ _ _ _)
   | (with_reducible exact LeO.refl _)
   | (with_reducible exact LeO.none _)
   | (with_reducible refine LeO.ite ?_ ?_)
   | (with_reducible refine LeO.bind ?_ (fun _ => ?_))
   | exact ih0 _ _ _ _ _ _
   | exact LeO.none _
   | refine LeO.ite ?_ ?_
   | refine LeO.bind ?_ (fun _ => ?_)
theorem sym_scale_of.mono : ∀ a0 a1 a2 k, LeO (sym_scale_of.f k a0 a1 a2) (sym_scale_of.f (k + 1) a0 a1 a2) := by
 intro a0 a1 a2 k
 have ih0 := sym_scale_of.mono_l k
 unfold sym_scale_of.f
 repeat' first
   | (with_reducible exact ih0 _ _ _ _ _ _)
   | (with_reducible exact LeO.refl _)
   | (with_reducible exact LeO.none _)
   | (with_reducible refine LeO.ite ?_ ?_)
   | (with_reducible refine LeO.bind ?_ (fun _ => ?_))
   | exact ih0 _ _ _ _ _ _
   | exact LeO.none _
   | refine LeO.ite ?_ ?_
   | refine LeO.bind ?_ (fun _ => ?_)
set_option maxHeartbeats 8000000 in
set_option maxRecDepth 100000 in
theorem sym_scale_of.calls (k : Nat) (a0_0 : Int) (a0_1 : Int) (a1 : Int) (r1 : Int) (r2 : Int) (w : World) (h : sym_scale_of.f k a0_0 a0_1 a1 = some (r1, r2)) :
  Calls Try.prog 112 #[.agg #[.int .i64 a0_0, .int .i64 a0_1], .int .i64 a1] w fun e w' => e = .returned (.tuple #[.int .i64 r1, .int .i64 r2]) ∧ Below w.heap.size w w' := by
 have hu127 := Try.underlying127
 have HB := Aside0.mk (Below.refl w.heap.size w)
 have H : (sym_scale_of.l0 k a1 (mn a1 a0_0) 0 a0_0 a0_0 a0_1) = some (r1, r2) := h
 clear h
 obtain ⟨ji3, hji3⟩ : ∃ j_ : Int, (mn a1 a0_0) = j_ := ⟨_, rfl⟩
 replace H : (sym_scale_of.l0 k a1 ji3 0 a0_0 a0_0 a0_1) = some (r1, r2) := by first | (rw [hji3] at H; exact H) | (simp only [hji3] at H ⊢; exact H)
 have hji3_ : (if a0_0 < a1 then a0_0 else a1) = ji3 := hji3
 have H' := Aside0.mk H
 clear H
 go_enter Try.func112, Try.ntmps112
 go_wp2_with (first | ((with_reducible refine gate_dst (N := 2) rfl ?_); refine box_event ?hg (N := 2) ?hd (cs := #[.int .i64 a0_0, .int .i64 a0_1]) (t := 127) ?hr ?_; (case hd => rfl); (case hg => rfl); (case hr => first | (go_simp; done) | (go_simp; rfl)); intro gb121 hg w4 hbox hb; have n0_ := Aside0.mk (below_step (by repeat (first | (with_reducible first | exact HB.out | apply below_alloc | apply pw_below_drewN | apply below_drew1) | exact HB.out)) hb); have n1_ := Aside0.mk (hbox); have n2_ := Aside0.mk ((by rw [hg]; exact (below_size (by repeat (first | (with_reducible first | exact HB.out | apply below_alloc | apply pw_below_drewN | apply below_drew1) | exact HB.out))) : w.heap.size ≤ gb121)); have n3_ := Aside0.mk ((by rw [hg]; exact (below_size (by repeat (first | (with_reducible first | exact HB.out | apply below_alloc | apply pw_below_drewN | apply below_drew1) | exact HB.out))) : w.heap.size ≤ gb121)); clear HB; have HB := n0_; have BK121 := n1_; have GW121 := n2_; have GE121 := n3_; clear n0_ n1_ n2_ n3_; clear hb hbox hg; have hcz5_0 : w4.cell? ⟨gb121, 0, none⟩ = some (.int .i64 a0_0) := (blk_cell BK121.out 0).trans rfl; have hcz5_1 : w4.cell? ⟨gb121, 1, none⟩ = some (.int .i64 a0_1) := (blk_cell BK121.out 1).trans rfl; have hfz5_0 := blk_frozen BK121.out 0; have hfz5_1 := blk_frozen BK121.out 1))
 go_loopg [4, 6] k (fun kq v4 v6 w' => ∃ (x4_1 : Int) (x6_1 : Int), v4 = .int .i64 x4_1 ∧ v6 = .int .i64 x6_1 ∧ Aside0 (sym_scale_of.l0 kq a1 x4_1 0 x6_1 a0_0 a0_1 = some (r1, r2)) ∧ Aside0 (kq ≤ k) ∧ Aside0 (w'.heap[gb121]? = some (.cells #[.int .i64 a0_0, .int .i64 a0_1] 127 (0, 0))) ∧ Aside0 (Below w.heap.size w w'))
 case atStart => exact ⟨(ji3), (a0_0), (by first | rfl | (simp; done) | (simp only [← hji3] <;> (first | rfl | simp)) | (simp [*]; done)), (by first | rfl | (simp; done) | (simp [*]; done)), H', ⟨Nat.le_refl _⟩, ⟨by (with_reducible repeat (first | refine blk_drewN ?_ _ | refine blk_drew ?_ | refine blk_alloc ?_ _)); exact BK121.out⟩, ⟨by repeat (first | (with_reducible first | exact HB.out | apply below_alloc | apply pw_below_drewN | apply below_drew1 | refine below_set ?_ GE121.out) | exact HB.out)⟩⟩
 case round =>
  clear H'
  try clear c1
  try clear p2
  try clear hcz5_0
  try clear hcz5_1
  try clear hfz5_0
  try clear hfz5_1
  obtain ⟨x4_1, x6_1, rfl, rfl, HA, HK1, BK121, HB⟩ := hrel
  cases gk with
  | zero => exact absurd HA.out (by simp [sym_scale_of.l0])
  | succ k1 =>
   have H := HA.out
   clear HA
   simp only [sym_scale_of.l0] at H
   by_cases c6 : x6_1 < a1
   ·rw [if_pos c6] at H
    have c6b0 : decide (x6_1 < a1) = true := decide_eq_true c6
    clear c6
    by_cases c7 : a0_1 = 0
    ·rw [if_pos c7] at H
     exact absurd H (by simp)
    ·rw [if_neg c7] at H
     have c7b0 : (a0_1 == 0) = false := beq_eq_false_iff_ne.mpr c7
     have c7b1 : (a0_1 != 0) = true := bne_iff_ne.mpr c7
     obtain ⟨ji8, hji8⟩ : ∃ j_ : Int, (IntKind.u64.wrap (wrap64 (1 + (wrap64 (Int.tdiv (wrap64 (x6_1 - a0_0)) a0_1))))) = j_ := ⟨_, rfl⟩
     replace H : (if 0 ≤ (ji8) then (sym_scale_of.l0 k1 a1 (wrap64 (x4_1 + (shl .i64 1 (ji8)))) 0 (wrap64 (x6_1 + 1)) a0_0 a0_1) else (none)) = some (r1, r2) := by first | (rw [hji8] at H; exact H) | (simp only [hji8] at H ⊢; exact H)
     by_cases c9 : 0 ≤ (ji8)
     ·rw [if_pos c9] at H
      have c9b0 := eq_true c9
      have c9b1 : decide (0 ≤ (ji8)) = true := decide_eq_true c9
      clear c9
      obtain ⟨ji10, hji10⟩ : ∃ j_ : Int, (shl .i64 1 (ji8)) = j_ := ⟨_, rfl⟩
      replace H : (sym_scale_of.l0 k1 a1 (wrap64 (x4_1 + (ji10))) 0 (wrap64 (x6_1 + 1)) a0_0 a0_1) = some (r1, r2) := by first | (rw [hji10] at H; exact H) | (simp only [hji10] at H ⊢; exact H)
      have hji10_ : (IntKind.i64.wrap (1 * 2 ^ min (ji8).toNat 64)) = ji10 := hji10
      have hji10z : (ji8) ≤ 64 → (IntKind.i64.wrap (1 * 2 ^ (ji8).toNat)) = ji10 := shl_small hji10
      have hji10u : (IntKind.i64.wrap (2 ^ min (ji8).toNat 64)) = ji10 := by have h_ := hji10_; rw [Int.one_mul] at h_; exact h_
      have hji10v : (ji8) ≤ 64 → (IntKind.i64.wrap (2 ^ (ji8).toNat)) = ji10 := fun hle_ => by have h_ := hji10z hle_; rw [Int.one_mul] at h_; exact h_
      have hji10y : (wrap64 (1 * 2 ^ min (ji8).toNat 64)) = ji10 := (i64_w _).symm.trans hji10_
      have hji10x : (ji8) ≤ 64 → (wrap64 (1 * 2 ^ (ji8).toNat)) = ji10 := fun h_ => (i64_w _).symm.trans (hji10z h_)
      have H' := Aside0.mk H
      clear H
      have hcz11_0 : wr.cell? ⟨gb121, 0, none⟩ = some (.int .i64 a0_0) := (blk_cell BK121.out 0).trans rfl
      have hcz11_1 : wr.cell? ⟨gb121, 1, none⟩ = some (.int .i64 a0_1) := (blk_cell BK121.out 1).trans rfl
      have hfz11_0 := blk_frozen BK121.out 0
      have hfz11_1 := blk_frozen BK121.out 1
      go_wp2
      go_roundg k1
      case measure => have := HK1.out; omega
      case rel => exact ⟨(wrap64 (x4_1 + (ji10))), (wrap64 (x6_1 + 1)), (by first | rfl | (simp; done) | (simp only [← hji10] <;> (first | rfl | simp)) | (simp [*]; done)), (by first | rfl | (simp; done) | (simp [*]; done)), H', ⟨by have := HK1.out; omega⟩, ⟨by (with_reducible repeat (first | refine blk_drewN ?_ _ | refine blk_drew ?_ | refine blk_alloc ?_ _)); exact BK121.out⟩, ⟨by repeat (first | (with_reducible first | exact HB.out | apply below_alloc | apply pw_below_drewN | apply below_drew1 | refine below_set ?_ GE121.out) | exact HB.out)⟩⟩
     ·rw [if_neg c9] at H
      exact absurd H (by simp)
   ·rw [if_neg c6] at H
    have c6b0 : decide (x6_1 < a1) = false := decide_eq_false c6
    clear c6
    by_cases c12 : a1 ≥ a0_0
    ·rw [if_pos c12] at H
     have c12b0 : decide (a0_0 ≤ a1) = true := decide_eq_true c12
     clear c12
     by_cases c13 : a0_1 = 0
     ·rw [if_pos c13] at H
      exact absurd H (by simp)
     ·rw [if_neg c13] at H
      have c13b0 : (a0_1 == 0) = false := beq_eq_false_iff_ne.mpr c13
      have c13b1 : (a0_1 != 0) = true := bne_iff_ne.mpr c13
      simp only [Option.some.injEq, Prod.mk.injEq] at H
      obtain ⟨rfl, rfl⟩ := H
      have hcz14_0 : wr.cell? ⟨gb121, 0, none⟩ = some (.int .i64 a0_0) := (blk_cell BK121.out 0).trans rfl
      have hcz14_1 : wr.cell? ⟨gb121, 1, none⟩ = some (.int .i64 a0_1) := (blk_cell BK121.out 1).trans rfl
      have hfz14_0 := blk_frozen BK121.out 0
      have hfz14_1 := blk_frozen BK121.out 1
      go_wp2
      go_ret2
      exact ⟨by first | rfl | (simp [errW_none, errW_some] <;> rfl) | (simp only [← hji3]; first | rfl | (simp [errW_none, errW_some] <;> rfl)) | (simp [*, errW_none, errW_some] <;> rfl), by repeat (first | (with_reducible first | exact HB.out | apply below_alloc | apply pw_below_drewN | apply below_drew1 | refine below_set ?_ GE121.out) | exact HB.out)⟩
    ·rw [if_neg c12] at H
     have c12b0 : decide (a0_0 ≤ a1) = false := decide_eq_false c12
     clear c12
     simp only [Option.some.injEq, Prod.mk.injEq] at H
     obtain ⟨rfl, rfl⟩ := H
     have hcz15_0 : wr.cell? ⟨gb121, 0, none⟩ = some (.int .i64 a0_0) := (blk_cell BK121.out 0).trans rfl
     have hcz15_1 : wr.cell? ⟨gb121, 1, none⟩ = some (.int .i64 a0_1) := (blk_cell BK121.out 1).trans rfl
     have hfz15_0 := blk_frozen BK121.out 0
     have hfz15_1 := blk_frozen BK121.out 1
     go_wp2
     go_ret2
     exact ⟨by first | rfl | (simp [errW_none, errW_some] <;> rfl) | (simp only [← hji3]; first | rfl | (simp [errW_none, errW_some] <;> rfl)) | (simp [*, errW_none, errW_some] <;> rfl), by repeat (first | (with_reducible first | exact HB.out | apply below_alloc | apply pw_below_drewN | apply below_drew1 | refine below_set ?_ GE121.out) | exact HB.out)⟩

/-! ### sym_scale_at: function 103 -/
def sym_scale_at.l0 : Nat → Int → Int → Int → Int → Option (Int × Int × Int)
 | 0, _, _, _, _ => none
 | k + 1, x1, x4, x123000, x123001 => (sym_scale_of.f k x123000 x123001 x4).bind fun bt123 => (if 0 ≤ (IntKind.u64.wrap (bt123.2)) then (if (wrap64 (x1 - bt123.1)) < (shl .i64 1 (IntKind.u64.wrap (bt123.2))) then (some (x4, bt123.2, wrap64 (x1 - bt123.1))) else (sym_scale_at.l0 k x1 (wrap64 (x4 + 1)) x123000 x123001)) else (none))
def sym_scale_at.f (k : Nat) (a0_0 : Int) (a0_1 : Int) (a1 : Int) : Option (Int × Int × Int) := sym_scale_at.l0 k a1 0 a0_0 a0_1
theorem sym_scale_at.mono_l : ∀ k, (∀ y0 y1 y2 y3, LeO (sym_scale_at.l0 k y0 y1 y2 y3) (sym_scale_at.l0 (k + 1) y0 y1 y2 y3))
 | 0 => fun _ _ _ _ r h => by simp [sym_scale_at.l0] at h
 | k + 1 => by
  have ih0 := sym_scale_at.mono_l k
  ·intro y0 y1 y2 y3
   unfold sym_scale_at.l0
   repeat' first
   | (with_reducible exact ih0 _ _ _ _)
   | (with_reducible exact sym_scale_of.mono _ _ _ _)
   | (with_reducible exact LeO.refl _)
   | (with_reducible exact LeO.none _)
   | (with_reducible refine LeO.ite ?_ ?_)
   | (with_reducible refine LeO.bind ?_ (fun _ => ?_))
   | exact ih0 _ _ _ _
   | exact sym_scale_of.mono _ _ _ _
   | exact LeO.none _
   | refine LeO.ite ?_ ?_
   | refine LeO.bind ?_ (fun _ => ?_)
theorem sym_scale_at.mono : ∀ a0 a1 a2 k, LeO (sym_scale_at.f k a0 a1 a2) (sym_scale_at.f (k + 1) a0 a1 a2) := by
 intro a0 a1 a2 k
 have ih0 := sym_scale_at.mono_l k
 unfold sym_scale_at.f
 repeat' first
   | (with_reducible exact ih0 _ _ _ _)
   | (with_reducible exact sym_scale_of.mono _ _ _ _)
   | (with_reducible exact LeO.refl _)
   | (with_reducible exact LeO.none _)
   | (with_reducible refine LeO.ite ?_ ?_)
   | (with_reducible refine LeO.bind ?_ (fun _ => ?_))
   | exact ih0 _ _ _ _
   | exact sym_scale_of.mono _ _ _ _
   | exact LeO.none _
   | refine LeO.ite ?_ ?_
   | refine LeO.bind ?_ (fun _ => ?_)
set_option maxHeartbeats 8000000 in
set_option maxRecDepth 100000 in
theorem sym_scale_at.calls (k : Nat) (a0_0 : Int) (a0_1 : Int) (a1 : Int) (r1 : Int) (r2 : Int) (r3 : Int) (w : World) (h : sym_scale_at.f k a0_0 a0_1 a1 = some (r1, r2, r3)) :
  Calls Try.prog 103 #[.agg #[.int .i64 a0_0, .int .i64 a0_1], .int .i64 a1] w fun e w' => e = .returned (.tuple #[.int .i64 r1, .int .i64 r2, .int .i64 r3]) ∧ Below w.heap.size w w' := by
 have hu127 := Try.underlying127
 have HB := Aside0.mk (Below.refl w.heap.size w)
 have H : (sym_scale_at.l0 k a1 0 a0_0 a0_1) = some (r1, r2, r3) := h
 clear h
 have H' := Aside0.mk H
 clear H
 go_enter Try.func103, Try.ntmps103
 go_wp2_with (first | ((with_reducible refine gate_dst (N := 2) rfl ?_); refine box_event ?hg (N := 2) ?hd (cs := #[.int .i64 a0_0, .int .i64 a0_1]) (t := 127) ?hr ?_; (case hd => rfl); (case hg => rfl); (case hr => first | (go_simp; done) | (go_simp; rfl)); intro gb122 hg w3 hbox hb; have n0_ := Aside0.mk (below_step (by repeat (first | (with_reducible first | exact HB.out | apply below_alloc | apply pw_below_drewN | apply below_drew1) | exact HB.out)) hb); have n1_ := Aside0.mk (hbox); have n2_ := Aside0.mk ((by rw [hg]; exact (below_size (by repeat (first | (with_reducible first | exact HB.out | apply below_alloc | apply pw_below_drewN | apply below_drew1) | exact HB.out))) : w.heap.size ≤ gb122)); have n3_ := Aside0.mk ((by rw [hg]; exact (below_size (by repeat (first | (with_reducible first | exact HB.out | apply below_alloc | apply pw_below_drewN | apply below_drew1) | exact HB.out))) : w.heap.size ≤ gb122)); clear HB; have HB := n0_; have BK122 := n1_; have GW122 := n2_; have GE122 := n3_; clear n0_ n1_ n2_ n3_; clear hb hbox hg))
 go_loopg [4] k (fun kq v4 w' => ∃ (x4_1 : Int), v4 = .int .i64 x4_1 ∧ Aside0 (sym_scale_at.l0 kq a1 x4_1 a0_0 a0_1 = some (r1, r2, r3)) ∧ Aside0 (kq ≤ k) ∧ Aside0 (w'.heap[gb122]? = some (.cells #[.int .i64 a0_0, .int .i64 a0_1] 127 (0, 0))) ∧ Aside0 (Below w.heap.size w w'))
 case atStart => exact ⟨(0), (by first | rfl | (simp; done) | (simp [*]; done)), H', ⟨Nat.le_refl _⟩, ⟨by (with_reducible repeat (first | refine blk_drewN ?_ _ | refine blk_drew ?_ | refine blk_alloc ?_ _)); exact BK122.out⟩, ⟨by repeat (first | (with_reducible first | exact HB.out | apply below_alloc | apply pw_below_drewN | apply below_drew1 | refine below_set ?_ GE122.out) | exact HB.out)⟩⟩
 case round =>
  clear H'
  try clear c1
  try clear p2
  obtain ⟨x4_1, rfl, HA, HK1, BK122, HB⟩ := hrel
  cases gk with
  | zero => exact absurd HA.out (by simp [sym_scale_at.l0])
  | succ k1 =>
   have H := HA.out
   clear HA
   simp only [sym_scale_at.l0] at H
   replace H := Option.bind_eq_some_iff.mp H
   obtain ⟨⟨t123, t124⟩, A40, H⟩ := H
   replace H : (if 0 ≤ (IntKind.u64.wrap (t124)) then (if (wrap64 (a1 - t123)) < (shl .i64 1 (IntKind.u64.wrap (t124))) then (some (x4_1, t124, wrap64 (a1 - t123))) else (sym_scale_at.l0 k1 a1 (wrap64 (x4_1 + 1)) a0_0 a0_1)) else (none)) = some (r1, r2, r3) := H
   have A4 := Aside0.mk A40
   clear A40
   obtain ⟨ji5, hji5⟩ : ∃ j_ : Int, (IntKind.u64.wrap (t124)) = j_ := ⟨_, rfl⟩
   replace H : (if 0 ≤ (ji5) then (if (wrap64 (a1 - t123)) < (shl .i64 1 (ji5)) then (some (x4_1, t124, wrap64 (a1 - t123))) else (sym_scale_at.l0 k1 a1 (wrap64 (x4_1 + 1)) a0_0 a0_1)) else (none)) = some (r1, r2, r3) := by first | (rw [hji5] at H; exact H) | (simp only [hji5] at H ⊢; exact H)
   (try rw [hji5] at A4)
   by_cases c6 : 0 ≤ (ji5)
   ·rw [if_pos c6] at H
    have c6b0 := eq_true c6
    have c6b1 : decide (0 ≤ (ji5)) = true := decide_eq_true c6
    clear c6
    obtain ⟨ji7, hji7⟩ : ∃ j_ : Int, (shl .i64 1 (ji5)) = j_ := ⟨_, rfl⟩
    replace H : (if (wrap64 (a1 - t123)) < (ji7) then (some (x4_1, t124, wrap64 (a1 - t123))) else (sym_scale_at.l0 k1 a1 (wrap64 (x4_1 + 1)) a0_0 a0_1)) = some (r1, r2, r3) := by first | (rw [hji7] at H; exact H) | (simp only [hji7] at H ⊢; exact H)
    (try rw [hji7] at A4)
    have hji7_ : (IntKind.i64.wrap (1 * 2 ^ min (ji5).toNat 64)) = ji7 := hji7
    have hji7z : (ji5) ≤ 64 → (IntKind.i64.wrap (1 * 2 ^ (ji5).toNat)) = ji7 := shl_small hji7
    have hji7u : (IntKind.i64.wrap (2 ^ min (ji5).toNat 64)) = ji7 := by have h_ := hji7_; rw [Int.one_mul] at h_; exact h_
    have hji7v : (ji5) ≤ 64 → (IntKind.i64.wrap (2 ^ (ji5).toNat)) = ji7 := fun hle_ => by have h_ := hji7z hle_; rw [Int.one_mul] at h_; exact h_
    have hji7y : (wrap64 (1 * 2 ^ min (ji5).toNat 64)) = ji7 := (i64_w _).symm.trans hji7_
    have hji7x : (ji5) ≤ 64 → (wrap64 (1 * 2 ^ (ji5).toNat)) = ji7 := fun h_ => (i64_w _).symm.trans (hji7z h_)
    by_cases c8 : (wrap64 (a1 - t123)) < (ji7)
    ·rw [if_pos c8] at H
     have c8b0 : decide ((wrap64 (a1 - t123)) < (ji7)) = true := decide_eq_true c8
     clear c8
     simp only [Option.some.injEq, Prod.mk.injEq] at H
     obtain ⟨rfl, rfl, rfl⟩ := H
     have hcz9_0 : wr.cell? ⟨gb122, 0, none⟩ = some (.int .i64 a0_0) := (blk_cell BK122.out 0).trans rfl
     have hcz9_1 : wr.cell? ⟨gb122, 1, none⟩ = some (.int .i64 a0_1) := (blk_cell BK122.out 1).trans rfl
     have hfz9_0 := blk_frozen BK122.out 0
     have hfz9_1 := blk_frozen BK122.out 1
     go_wp2_with (first | ((with_reducible refine gate_callee (f := 112) rfl ?_); refine goesL_ (some 12) rfl rfl Try.func112 (by kernel_rfl) rfl #[.agg #[.int .i64 a0_0, .int .i64 a0_1], .int .i64 x4_1] rfl (by (try simp only [List.map_toArray, List.map_cons, List.map_nil]); first | done | rfl | (simp only [List.length_drop, List.length_take]; rfl)) ?_; (with_reducible refine (sym_scale_of.calls k1 a0_0 a0_1 x4_1 t123 t124 _ A4.out).mono ?_); rintro e w10 ⟨rfl, hb⟩; refine ⟨_, rfl, ?_⟩; have n0_ := Aside0.mk (blk_below (g := gb122) (o := .cells #[.int .i64 a0_0, .int .i64 a0_1] 127 (0, 0)) (by (with_reducible repeat (first | refine blk_drewN ?_ _ | refine blk_drew ?_ | refine blk_alloc ?_ _)); exact BK122.out) hb); have n1_ := Aside0.mk (below_step (by repeat (first | (with_reducible first | exact HB.out | apply below_alloc | apply pw_below_drewN | apply below_drew1 | refine below_set ?_ GE122.out) | exact HB.out)) hb); clear BK122; clear HB; have BK122 := n0_; have HB := n1_; clear n0_ n1_; (try clear hb); (try clear hb2); (try clear hk); (try clear hi)))
     go_ret3
     exact ⟨by first | rfl | (simp [errW_none, errW_some] <;> rfl) | (simp only [← hji5, ← hji7]; first | rfl | (simp [errW_none, errW_some] <;> rfl)) | (simp [*, errW_none, errW_some] <;> rfl), by repeat (first | (with_reducible first | exact HB.out | apply below_alloc | apply pw_below_drewN | apply below_drew1 | refine below_set ?_ GE122.out) | exact HB.out)⟩
    ·rw [if_neg c8] at H
     have c8b0 : decide ((wrap64 (a1 - t123)) < (ji7)) = false := decide_eq_false c8
     clear c8
     have H' := Aside0.mk H
     clear H
     have hcz11_0 : wr.cell? ⟨gb122, 0, none⟩ = some (.int .i64 a0_0) := (blk_cell BK122.out 0).trans rfl
     have hcz11_1 : wr.cell? ⟨gb122, 1, none⟩ = some (.int .i64 a0_1) := (blk_cell BK122.out 1).trans rfl
     have hfz11_0 := blk_frozen BK122.out 0
     have hfz11_1 := blk_frozen BK122.out 1
     go_wp2_with (first | ((with_reducible refine gate_callee (f := 112) rfl ?_); refine goesL_ (some 12) rfl rfl Try.func112 (by kernel_rfl) rfl #[.agg #[.int .i64 a0_0, .int .i64 a0_1], .int .i64 x4_1] rfl (by (try simp only [List.map_toArray, List.map_cons, List.map_nil]); first | done | rfl | (simp only [List.length_drop, List.length_take]; rfl)) ?_; (with_reducible refine (sym_scale_of.calls k1 a0_0 a0_1 x4_1 t123 t124 _ A4.out).mono ?_); rintro e w12 ⟨rfl, hb⟩; refine ⟨_, rfl, ?_⟩; have n0_ := Aside0.mk (blk_below (g := gb122) (o := .cells #[.int .i64 a0_0, .int .i64 a0_1] 127 (0, 0)) (by (with_reducible repeat (first | refine blk_drewN ?_ _ | refine blk_drew ?_ | refine blk_alloc ?_ _)); exact BK122.out) hb); have n1_ := Aside0.mk (below_step (by repeat (first | (with_reducible first | exact HB.out | apply below_alloc | apply pw_below_drewN | apply below_drew1 | refine below_set ?_ GE122.out) | exact HB.out)) hb); clear BK122; clear HB; have BK122 := n0_; have HB := n1_; clear n0_ n1_; (try clear hb); (try clear hb2); (try clear hk); (try clear hi)))
     go_roundg k1
     case measure => have := HK1.out; omega
     case rel => exact ⟨(wrap64 (x4_1 + 1)), (by first | rfl | (simp; done) | (simp [*]; done)), H', ⟨by have := HK1.out; omega⟩, ⟨by (with_reducible repeat (first | refine blk_drewN ?_ _ | refine blk_drew ?_ | refine blk_alloc ?_ _)); exact BK122.out⟩, ⟨by repeat (first | (with_reducible first | exact HB.out | apply below_alloc | apply pw_below_drewN | apply below_drew1 | refine below_set ?_ GE122.out) | exact HB.out)⟩⟩
   ·rw [if_neg c6] at H
    exact absurd H (by simp)

/-! ### sym_Len: function 86 -/
def sym_Len.j0 : Nat → Int → Bool → Option (Int × Int × Int × Int)
 | 0, _, _ => none
 | k + 1, x0, x6 => if x6 = true then (some (0, 0, 0, 1)) else (if x0 = 258 then (some (285, 0, 0, 0)) else ((sym_lens.f).bind fun bt125 => ((sym_scale_at.f k bt125.1 bt125.2 (wrap64 (x0 - 3))).bind fun bt127 => (some (wrap64 (257 + bt127.1), bt127.2.1, bt127.2.2, 0)))))
def sym_Len.f (k : Nat) (a0 : Int) : Option (Int × Int × Int × Int) := if a0 < 3 then (sym_Len.j0 k a0 true) else (sym_Len.j0 k a0 (decide (a0 > 258)))
theorem sym_Len.mono_l : ∀ k, (∀ y0 y1, LeO (sym_Len.j0 k y0 y1) (sym_Len.j0 (k + 1) y0 y1))
 | 0 => fun _ _ r h => by simp [sym_Len.j0] at h
 | k + 1 => by
  have ih0 := sym_Len.mono_l k
  ·intro y0 y1
   unfold sym_Len.j0
   repeat' first
   | (with_reducible exact ih0 _ _)
   | (with_reducible exact sym_scale_at.mono _ _ _ _)
   | (with_reducible exact LeO.refl _)
   | (with_reducible exact LeO.none _)
   | (with_reducible refine LeO.ite ?_ ?_)
   | (with_reducible refine LeO.bind ?_ (fun _ => ?_))
   | exact ih0 _ _
   | exact sym_scale_at.mono _ _ _ _
   | exact LeO.none _
   | refine LeO.ite ?_ ?_
   | refine LeO.bind ?_ (fun _ => ?_)
theorem sym_Len.mono : ∀ a0 k, LeO (sym_Len.f k a0) (sym_Len.f (k + 1) a0) := by
 intro a0 k
 have ih0 := sym_Len.mono_l k
 unfold sym_Len.f
 repeat' first
   | (with_reducible exact ih0 _ _)
   | (with_reducible exact sym_scale_at.mono _ _ _ _)
   | (with_reducible exact LeO.refl _)
   | (with_reducible exact LeO.none _)
   | (with_reducible refine LeO.ite ?_ ?_)
   | (with_reducible refine LeO.bind ?_ (fun _ => ?_))
   | exact ih0 _ _
   | exact sym_scale_at.mono _ _ _ _
   | exact LeO.none _
   | refine LeO.ite ?_ ?_
   | refine LeO.bind ?_ (fun _ => ?_)
set_option maxHeartbeats 8000000 in
set_option maxRecDepth 100000 in
theorem sym_Len.calls (k : Nat) (a0 : Int) (r1 : Int) (r2 : Int) (r3 : Int) (r4 : Int) (w : World) (h : sym_Len.f k a0 = some (r1, r2, r3, r4)) :
  Calls Try.prog 86 #[.int .i64 a0] w fun e w' => e = .returned (.tuple #[.int .i64 r1, .int .i64 r2, .int .i64 r3, .int .i64 r4]) ∧ Below w.heap.size w w' := by
 have HB := Aside0.mk (Below.refl w.heap.size w)
 have H : (if a0 < 3 then (sym_Len.j0 k a0 true) else (sym_Len.j0 k a0 (decide (a0 > 258)))) = some (r1, r2, r3, r4) := h
 clear h
 have HC2 := Aside0.mk H
 clear H
 go_enter Try.func86, Try.ntmps86
 go_upto_region 1 with (fail)
 go_cut [6] (fun v6 wc => ∃ (kq : Nat) (x6_1 : Bool), v6 = .bool x6_1 ∧ Aside0 (sym_Len.j0 kq a0 x6_1 = some (r1, r2, r3, r4)) ∧ Aside0 (kq ≤ k) ∧ Aside0 (Below w.heap.size w wc))
 case first =>
  have H := HC2.out
  clear HC2
  by_cases c3 : a0 < 3
  ·rw [if_pos c3] at H
   have c3b0 : decide (a0 < 3) = true := decide_eq_true c3
   clear c3
   (first | rw [c3b0] | (simp only [i64_w, i32_w]; rw [c3b0]) | skip)
   have H' := Aside0.mk H
   clear H
   go_wp2
   go_meet
   case rel => exact ⟨_, (true), (by first | rfl | (simp; done) | (simp [*]; done)), H', ⟨by first | omega | exact Nat.le_refl _⟩, ⟨by repeat (first | (with_reducible first | exact HB.out | apply below_alloc | apply pw_below_drewN | apply below_drew1) | exact HB.out)⟩⟩
  ·rw [if_neg c3] at H
   have c3b0 : decide (a0 < 3) = false := decide_eq_false c3
   clear c3
   (first | rw [c3b0] | (simp only [i64_w, i32_w]; rw [c3b0]) | skip)
   have H' := Aside0.mk H
   clear H
   go_wp2
   go_meet
   case rel => exact ⟨_, (decide (a0 > 258)), (by first | rfl | (simp; done) | (simp [*]; done)), H', ⟨by first | omega | exact Nat.le_refl _⟩, ⟨by repeat (first | (with_reducible first | exact HB.out | apply below_alloc | apply pw_below_drewN | apply below_drew1) | exact HB.out)⟩⟩
 case rest =>
  clear HC2
  try clear p2
  try clear c3
  try clear c3b0
  obtain ⟨kq, x6_1, rfl, HA, HJ1, HB⟩ := hcut
  cases kq with
  | zero => exact absurd HA.out (by simp [sym_Len.j0])
  | succ kj1 =>
   have H := HA.out
   clear HA
   simp only [sym_Len.j0] at H
   by_cases c4 : x6_1 = true
   ·subst c4
    have H1 : (some (0, 0, 0, 1)) = some (r1, r2, r3, r4) := by rw [if_pos rfl] at H; exact H
    clear H
    have H := H1
    clear H1
    simp only [Option.some.injEq, Prod.mk.injEq] at H
    obtain ⟨rfl, rfl, rfl, rfl⟩ := H
    go_wp2
    refine bodyPost_ret (results_list (rs := [.tmp 2, .tmp 3, .tmp 4, .tmp 5]) rfl (by simp) (.tmp (.tmp (.tmp (.tmp .nil))))) rfl ?_
    exact ⟨by first | rfl | (simp [errW_none, errW_some] <;> rfl) | (simp [*, errW_none, errW_some] <;> rfl), by repeat (first | (with_reducible first | exact HB.out | apply below_alloc | apply pw_below_drewN | apply below_drew1) | exact HB.out)⟩
   ·replace c4 := Bool.eq_false_iff.mpr c4
    subst c4
    have H1 : (if a0 = 258 then (some (285, 0, 0, 0)) else ((sym_lens.f).bind fun bt125 => ((sym_scale_at.f kj1 bt125.1 bt125.2 (wrap64 (a0 - 3))).bind fun bt127 => (some (wrap64 (257 + bt127.1), bt127.2.1, bt127.2.2, 0))))) = some (r1, r2, r3, r4) := by rw [if_neg (show ¬ (false = true) by decide)] at H; exact H
    clear H
    have H := H1
    clear H1
    by_cases c5 : a0 = 258
    ·rw [if_pos c5] at H
     have c5b0 : (a0 == 258) = true := beq_iff_eq.mpr c5
     have c5b1 : (a0 != 258) = false := bne_eq_false_iff_eq.mpr c5
     clear c5
     simp only [Option.some.injEq, Prod.mk.injEq] at H
     obtain ⟨rfl, rfl, rfl, rfl⟩ := H
     go_wp2
     refine bodyPost_ret (results_list (rs := [.tmp 2, .tmp 3, .tmp 4, .tmp 5]) rfl (by simp) (.tmp (.tmp (.tmp (.tmp .nil))))) rfl ?_
     exact ⟨by first | rfl | (simp [errW_none, errW_some] <;> rfl) | (simp [*, errW_none, errW_some] <;> rfl), by repeat (first | (with_reducible first | exact HB.out | apply below_alloc | apply pw_below_drewN | apply below_drew1) | exact HB.out)⟩
    ·rw [if_neg c5] at H
     have c5b0 : (a0 == 258) = false := beq_eq_false_iff_ne.mpr c5
     have c5b1 : (a0 != 258) = true := bne_iff_ne.mpr c5
     replace H := Option.bind_eq_some_iff.mp H
     obtain ⟨⟨t125, t126⟩, A60, H⟩ := H
     replace H : ((sym_scale_at.f kj1 t125 t126 (wrap64 (a0 - 3))).bind fun bt127 => (some (wrap64 (257 + bt127.1), bt127.2.1, bt127.2.2, 0))) = some (r1, r2, r3, r4) := H
     have A6 := Aside0.mk A60
     clear A60
     replace H := Option.bind_eq_some_iff.mp H
     obtain ⟨⟨t127, t128, t129⟩, A70, H⟩ := H
     replace H : (some (wrap64 (257 + t127), t128, t129, 0)) = some (r1, r2, r3, r4) := H
     have A7 := Aside0.mk A70
     clear A70
     simp only [Option.some.injEq, Prod.mk.injEq] at H
     obtain ⟨rfl, rfl, rfl, rfl⟩ := H
     go_wp2_with (first | ((with_reducible refine gate_callee (f := 102) rfl ?_); refine goesL_ (some 17) rfl rfl Try.func102 (by kernel_rfl) rfl #[] rfl (by (try simp only [List.map_toArray, List.map_cons, List.map_nil]); first | done | rfl | (simp only [List.length_drop, List.length_take]; rfl)) ?_; (with_reducible refine (sym_lens.calls  t125 t126 _ A6.out).mono ?_); rintro e w8 ⟨rfl, hb⟩; refine ⟨_, rfl, ?_⟩; have n0_ := Aside0.mk (below_step (by repeat (first | (with_reducible first | exact HB.out | apply below_alloc | apply pw_below_drewN | apply below_drew1) | exact HB.out)) hb); clear HB; have HB := n0_; clear n0_; (try clear hb); (try clear hb2); (try clear hk); (try clear hi)) | ((with_reducible refine gate_callee (f := 103) rfl ?_); refine goesL_ (some 20) rfl rfl Try.func103 (by kernel_rfl) rfl #[.agg #[.int .i64 t125, .int .i64 t126], .int .i64 (wrap64 (a0 - 3))] rfl (by (try simp only [List.map_toArray, List.map_cons, List.map_nil]); first | done | rfl | (simp only [List.length_drop, List.length_take]; rfl)) ?_; (with_reducible refine (sym_scale_at.calls kj1 t125 t126 (wrap64 (a0 - 3)) t127 t128 t129 _ A7.out).mono ?_); rintro e w9 ⟨rfl, hb⟩; refine ⟨_, rfl, ?_⟩; have n0_ := Aside0.mk (below_step (by repeat (first | (with_reducible first | exact HB.out | apply below_alloc | apply pw_below_drewN | apply below_drew1) | exact HB.out)) hb); clear HB; have HB := n0_; clear n0_; (try clear hb); (try clear hb2); (try clear hk); (try clear hi)))
     refine bodyPost_ret (results_list (rs := [.tmp 2, .tmp 3, .tmp 4, .tmp 5]) rfl (by simp) (.tmp (.tmp (.tmp (.tmp .nil))))) rfl ?_
     exact ⟨by first | rfl | (simp [errW_none, errW_some] <;> rfl) | (simp [*, errW_none, errW_some] <;> rfl), by repeat (first | (with_reducible first | exact HB.out | apply below_alloc | apply pw_below_drewN | apply below_drew1) | exact HB.out)⟩

/-! ### sym_dists: function 104 -/
def sym_dists.f  : Option (Int × Int) := some (4, 2)
set_option maxHeartbeats 8000000 in
set_option maxRecDepth 100000 in
theorem sym_dists.calls  (r1 : Int) (r2 : Int) (w : World) (h : sym_dists.f  = some (r1, r2)) :
  Calls Try.prog 104 #[] w fun e w' => e = .returned (.agg #[.int .i64 r1, .int .i64 r2]) ∧ Below w.heap.size w w' := by
 have hu127 := Try.underlying127
 have HB := Aside0.mk (Below.refl w.heap.size w)
 have H : (some (4, 2)) = some (r1, r2) := h
 clear h
 simp only [Option.some.injEq, Prod.mk.injEq] at H
 obtain ⟨rfl, rfl⟩ := H
 go_enter Try.func104, Try.ntmps104
 go_wp2_with (first | ((with_reducible refine gate_dst (N := 0) rfl ?_); refine box_event ?hg (N := 0) ?hd (cs := #[.int .i64 0, .int .i64 0]) (t := 127) ?hr ?_; (case hd => rfl); (case hg => rfl); (case hr => first | (go_simp; done) | (go_simp; rfl)); intro gb130 hg w1 hbox hb; have n0_ := Aside0.mk (below_step (by repeat (first | (with_reducible first | exact HB.out | apply below_alloc | apply pw_below_drewN | apply below_drew1) | exact HB.out)) hb); have n1_ := Aside0.mk (hbox); have n2_ := Aside0.mk ((by rw [hg]; exact (below_size (by repeat (first | (with_reducible first | exact HB.out | apply below_alloc | apply pw_below_drewN | apply below_drew1) | exact HB.out))) : w.heap.size ≤ gb130)); have n3_ := Aside0.mk ((by rw [hg]; exact (below_size (by repeat (first | (with_reducible first | exact HB.out | apply below_alloc | apply pw_below_drewN | apply below_drew1) | exact HB.out))) : w.heap.size ≤ gb130)); clear HB; have HB := n0_; have BK130 := n1_; have GW130 := n2_; have GE130 := n3_; clear n0_ n1_ n2_ n3_; clear hb hbox hg; have hcz2_0 : w1.cell? ⟨gb130, 0, none⟩ = some (.int .i64 0) := (blk_cell BK130.out 0).trans rfl; have hcz2_1 : w1.cell? ⟨gb130, 1, none⟩ = some (.int .i64 0) := (blk_cell BK130.out 1).trans rfl; have hfz2_0 := blk_frozen BK130.out 0; have hfz2_1 := blk_frozen BK130.out 1))
 refine bodyPost_ret (results_cell_row rfl _ _ gb130 127 #[.int .i64 4, .int .i64 2] (0, 0) _ rfl (by (with_reducible repeat (first | refine blk_drewN ?_ _ | refine blk_drew ?_ | refine blk_alloc ?_ _)); refine blk_put (cs := #[.int .i64 4, .int .i64 0]) ?_ 1 _ rfl; (with_reducible repeat (first | refine blk_drewN ?_ _ | refine blk_drew ?_ | refine blk_alloc ?_ _)); refine blk_put (cs := #[.int .i64 0, .int .i64 0]) ?_ 0 _ rfl; (with_reducible repeat (first | refine blk_drewN ?_ _ | refine blk_drew ?_ | refine blk_alloc ?_ _)); exact BK130.out) Try.underlying127 rfl (by kernel_rfl)) rfl ?_
 exact ⟨by first | rfl | (simp [errW_none, errW_some] <;> rfl) | (simp [*, errW_none, errW_some] <;> rfl), by repeat (first | (with_reducible first | exact HB.out | apply below_alloc | apply pw_below_drewN | apply below_drew1 | refine below_set ?_ GE130.out) | exact HB.out)⟩

/-! ### sym_Dist: function 87 -/
def sym_Dist.j0 : Nat → Int → Bool → Option (Int × Int × Int × Int)
 | 0, _, _ => none
 | k + 1, x0, x11 => if x11 = true then (some (0, 0, 0, 1)) else ((sym_dists.f).bind fun bt131 => ((sym_scale_at.f k bt131.1 bt131.2 (wrap64 (x0 - 1))).bind fun bt133 => (some (bt133.1, bt133.2.1, bt133.2.2, 0))))
def sym_Dist.f (k : Nat) (a0 : Int) : Option (Int × Int × Int × Int) := if a0 < 1 then (sym_Dist.j0 k a0 true) else (sym_Dist.j0 k a0 (decide (a0 > 32768)))
theorem sym_Dist.mono_l : ∀ k, (∀ y0 y1, LeO (sym_Dist.j0 k y0 y1) (sym_Dist.j0 (k + 1) y0 y1))
 | 0 => fun _ _ r h => by simp [sym_Dist.j0] at h
 | k + 1 => by
  have ih0 := sym_Dist.mono_l k
  ·intro y0 y1
   unfold sym_Dist.j0
   repeat' first
   | (with_reducible exact ih0 _ _)
   | (with_reducible exact sym_scale_at.mono _ _ _ _)
   | (with_reducible exact LeO.refl _)
   | (with_reducible exact LeO.none _)
   | (with_reducible refine LeO.ite ?_ ?_)
   | (with_reducible refine LeO.bind ?_ (fun _ => ?_))
   | exact ih0 _ _
   | exact sym_scale_at.mono _ _ _ _
   | exact LeO.none _
   | refine LeO.ite ?_ ?_
   | refine LeO.bind ?_ (fun _ => ?_)
theorem sym_Dist.mono : ∀ a0 k, LeO (sym_Dist.f k a0) (sym_Dist.f (k + 1) a0) := by
 intro a0 k
 have ih0 := sym_Dist.mono_l k
 unfold sym_Dist.f
 repeat' first
   | (with_reducible exact ih0 _ _)
   | (with_reducible exact sym_scale_at.mono _ _ _ _)
   | (with_reducible exact LeO.refl _)
   | (with_reducible exact LeO.none _)
   | (with_reducible refine LeO.ite ?_ ?_)
   | (with_reducible refine LeO.bind ?_ (fun _ => ?_))
   | exact ih0 _ _
   | exact sym_scale_at.mono _ _ _ _
   | exact LeO.none _
   | refine LeO.ite ?_ ?_
   | refine LeO.bind ?_ (fun _ => ?_)
set_option maxHeartbeats 8000000 in
set_option maxRecDepth 100000 in
theorem sym_Dist.calls (k : Nat) (a0 : Int) (r1 : Int) (r2 : Int) (r3 : Int) (r4 : Int) (w : World) (h : sym_Dist.f k a0 = some (r1, r2, r3, r4)) :
  Calls Try.prog 87 #[.int .i64 a0] w fun e w' => e = .returned (.tuple #[.int .i64 r1, .int .i64 r2, .int .i64 r3, .int .i64 r4]) ∧ Below w.heap.size w w' := by
 have HB := Aside0.mk (Below.refl w.heap.size w)
 have H : (if a0 < 1 then (sym_Dist.j0 k a0 true) else (sym_Dist.j0 k a0 (decide (a0 > 32768)))) = some (r1, r2, r3, r4) := h
 clear h
 have HC2 := Aside0.mk H
 clear H
 go_enter Try.func87, Try.ntmps87
 go_upto_region 1 with (fail)
 go_cut [11] (fun v11 wc => ∃ (kq : Nat) (x11_1 : Bool), v11 = .bool x11_1 ∧ Aside0 (sym_Dist.j0 kq a0 x11_1 = some (r1, r2, r3, r4)) ∧ Aside0 (kq ≤ k) ∧ Aside0 (Below w.heap.size w wc))
 case first =>
  have H := HC2.out
  clear HC2
  by_cases c3 : a0 < 1
  ·rw [if_pos c3] at H
   have c3b0 : decide (a0 < 1) = true := decide_eq_true c3
   clear c3
   (first | rw [c3b0] | (simp only [i64_w, i32_w]; rw [c3b0]) | skip)
   have H' := Aside0.mk H
   clear H
   go_wp2
   go_meet
   case rel => exact ⟨_, (true), (by first | rfl | (simp; done) | (simp [*]; done)), H', ⟨by first | omega | exact Nat.le_refl _⟩, ⟨by repeat (first | (with_reducible first | exact HB.out | apply below_alloc | apply pw_below_drewN | apply below_drew1) | exact HB.out)⟩⟩
  ·rw [if_neg c3] at H
   have c3b0 : decide (a0 < 1) = false := decide_eq_false c3
   clear c3
   (first | rw [c3b0] | (simp only [i64_w, i32_w]; rw [c3b0]) | skip)
   have H' := Aside0.mk H
   clear H
   go_wp2
   go_meet
   case rel => exact ⟨_, (decide (a0 > 32768)), (by first | rfl | (simp; done) | (simp [*]; done)), H', ⟨by first | omega | exact Nat.le_refl _⟩, ⟨by repeat (first | (with_reducible first | exact HB.out | apply below_alloc | apply pw_below_drewN | apply below_drew1) | exact HB.out)⟩⟩
 case rest =>
  clear HC2
  try clear p2
  try clear c3
  try clear c3b0
  obtain ⟨kq, x11_1, rfl, HA, HJ1, HB⟩ := hcut
  cases kq with
  | zero => exact absurd HA.out (by simp [sym_Dist.j0])
  | succ kj1 =>
   have H := HA.out
   clear HA
   simp only [sym_Dist.j0] at H
   by_cases c4 : x11_1 = true
   ·subst c4
    have H1 : (some (0, 0, 0, 1)) = some (r1, r2, r3, r4) := by rw [if_pos rfl] at H; exact H
    clear H
    have H := H1
    clear H1
    simp only [Option.some.injEq, Prod.mk.injEq] at H
    obtain ⟨rfl, rfl, rfl, rfl⟩ := H
    go_wp2
    refine bodyPost_ret (results_list (rs := [.tmp 2, .tmp 3, .tmp 4, .tmp 5]) rfl (by simp) (.tmp (.tmp (.tmp (.tmp .nil))))) rfl ?_
    exact ⟨by first | rfl | (simp [errW_none, errW_some] <;> rfl) | (simp [*, errW_none, errW_some] <;> rfl), by repeat (first | (with_reducible first | exact HB.out | apply below_alloc | apply pw_below_drewN | apply below_drew1) | exact HB.out)⟩
   ·replace c4 := Bool.eq_false_iff.mpr c4
    subst c4
    have H1 : ((sym_dists.f).bind fun bt131 => ((sym_scale_at.f kj1 bt131.1 bt131.2 (wrap64 (a0 - 1))).bind fun bt133 => (some (bt133.1, bt133.2.1, bt133.2.2, 0)))) = some (r1, r2, r3, r4) := by rw [if_neg (show ¬ (false = true) by decide)] at H; exact H
    clear H
    have H := H1
    clear H1
    replace H := Option.bind_eq_some_iff.mp H
    obtain ⟨⟨t131, t132⟩, A50, H⟩ := H
    replace H : ((sym_scale_at.f kj1 t131 t132 (wrap64 (a0 - 1))).bind fun bt133 => (some (bt133.1, bt133.2.1, bt133.2.2, 0))) = some (r1, r2, r3, r4) := H
    have A5 := Aside0.mk A50
    clear A50
    replace H := Option.bind_eq_some_iff.mp H
    obtain ⟨⟨t133, t134, t135⟩, A60, H⟩ := H
    replace H : (some (t133, t134, t135, 0)) = some (r1, r2, r3, r4) := H
    have A6 := Aside0.mk A60
    clear A60
    simp only [Option.some.injEq, Prod.mk.injEq] at H
    obtain ⟨rfl, rfl, rfl, rfl⟩ := H
    go_wp2_with (first | ((with_reducible refine gate_callee (f := 104) rfl ?_); refine goesL_ (some 13) rfl rfl Try.func104 (by kernel_rfl) rfl #[] rfl (by (try simp only [List.map_toArray, List.map_cons, List.map_nil]); first | done | rfl | (simp only [List.length_drop, List.length_take]; rfl)) ?_; (with_reducible refine (sym_dists.calls  t131 t132 _ A5.out).mono ?_); rintro e w7 ⟨rfl, hb⟩; refine ⟨_, rfl, ?_⟩; have n0_ := Aside0.mk (below_step (by repeat (first | (with_reducible first | exact HB.out | apply below_alloc | apply pw_below_drewN | apply below_drew1) | exact HB.out)) hb); clear HB; have HB := n0_; clear n0_; (try clear hb); (try clear hb2); (try clear hk); (try clear hi)) | ((with_reducible refine gate_callee (f := 103) rfl ?_); refine goesL_ (some 16) rfl rfl Try.func103 (by kernel_rfl) rfl #[.agg #[.int .i64 t131, .int .i64 t132], .int .i64 (wrap64 (a0 - 1))] rfl (by (try simp only [List.map_toArray, List.map_cons, List.map_nil]); first | done | rfl | (simp only [List.length_drop, List.length_take]; rfl)) ?_; (with_reducible refine (sym_scale_at.calls kj1 t131 t132 (wrap64 (a0 - 1)) t133 t134 t135 _ A6.out).mono ?_); rintro e w8 ⟨rfl, hb⟩; refine ⟨_, rfl, ?_⟩; have n0_ := Aside0.mk (below_step (by repeat (first | (with_reducible first | exact HB.out | apply below_alloc | apply pw_below_drewN | apply below_drew1) | exact HB.out)) hb); clear HB; have HB := n0_; clear n0_; (try clear hb); (try clear hb2); (try clear hk); (try clear hi)))
    refine bodyPost_ret (results_list (rs := [.tmp 2, .tmp 3, .tmp 4, .tmp 5]) rfl (by simp) (.tmp (.tmp (.tmp (.tmp .nil))))) rfl ?_
    exact ⟨by first | rfl | (simp [errW_none, errW_some] <;> rfl) | (simp [*, errW_none, errW_some] <;> rfl), by repeat (first | (with_reducible first | exact HB.out | apply below_alloc | apply pw_below_drewN | apply below_drew1) | exact HB.out)⟩

/-! ### shrink_pen_body: function 62 (by hand) -/
/-- A token behind a pen's bits. -/
def tokS (a lits b dists : List Int) (t : S53) (s : List Int × Nat) : Option (List Int × Nat) :=
 if t.f1 = 0 then codeS a lits (wrap64 t.f0) s else
  (sym_Len.f 400 t.f1).bind fun r => (codeS a lits r.1 s).bind fun s1 => (addS r.2.2.1 r.2.1 s1).bind fun s2 =>
  (sym_Dist.f 400 t.f2).bind fun q => (codeS b dists q.1 s2).bind fun s3 => addS q.2.2.1 q.2.1 s3
def bodyL (a lits b dists : List Int) : List S53 → List Int × Nat → Option (List Int × Nat)
 | [], s => some s
 | t :: l, s => (tokS a lits b dists t s).bind (bodyL a lits b dists l)
/-- Tokens and the end behind a pen's bits. -/
def bodyS (l : List S53) (lits dists : List Int) (s : List Int × Nat) : Option (List Int × Nat) :=
 (canon_Codes.f lits).bind fun a => (canon_Codes.f dists).bind fun b => (bodyL a.1 lits b.1 dists l s).bind fun s1 => codeS a.1 lits 256 s1
/-- A row that is read and that pens leave. -/
def ReadsP (w : World) (A : Option Addr) (l : List Int) : Prop := ∀ W, KeepP w W → Kd.C (Kd.int .i64) W A l.length l
theorem ReadsP.keep {w w1 : World} {A : Option Addr} {l : List Int} (h : ReadsP w A l) (hk : KeepP w w1) : ReadsP w1 A l := fun W hW => h W (hk.trans hW)
theorem ReadsP.now {w : World} {A : Option Addr} {l : List Int} (h : ReadsP w A l) : Kd.C (Kd.int .i64) w A l.length l := h w (KeepP.refl w)
theorem readsP_own {w : World} {base : Nat} {ok : Nat → Prop} {A : Option Addr} {n c : Nat} {l : List Int} (h : Kd.R (Kd.int .i64) 3 w base ok (.slice A n c) l) : ReadsP w A l ∧ n = l.length ∧ l.length ≤ c :=
 ⟨fun W hW => (Kd.R_reads' (introw_keepP h hW)).2.2, (Kd.R_reads' h).1, by have h1 := (Kd.R_reads' h).1; have h2 := (Kd.R_reads' h).2.1; omega⟩
/-- A row of tokens that pens leave. -/
def ReadsT (w : World) (A : Option Addr) (l : List S53) : Prop := ∀ W, KeepP w W → Kd.C k53 W A l.length l
set_option maxHeartbeats 8000000 in
set_option maxRecDepth 100000 in
theorem pen_body (g : Nat) (A1 A2 A3 : Option Addr) (c1 c2 c3 : Nat) (l : List S53) (lits dists : List Int) (s sr : List Int × Nat) (w0 w : World) (hP : PenAt w0 w g s) (hB : Below w0.heap.size w0 w)
  (hr1 : ReadsT w A1 l) (hc1 : l.length ≤ c1) (hl : l.length ≤ 1000000) (hr2 : ReadsP w A2 lits) (hc2 : lits.length ≤ c2) (hr3 : ReadsP w A3 dists) (hc3 : dists.length ≤ c3) (h : bodyS l lits dists s = some sr) :
  Calls Try.prog 62 #[.pointer (some ⟨g, 0, none⟩), .slice A1 l.length c1, .slice A2 lits.length c2, .slice A3 dists.length c3] w fun e w' => e = .returned (.tuple #[]) ∧ PenAt w0 w' g sr ∧ Below w0.heap.size w0 w' ∧ KeepP w w' := by
 unfold bodyS at h
 obtain ⟨⟨a, ea⟩, ha, h⟩ := Option.bind_eq_some_iff.1 h
 obtain ⟨⟨b, eb⟩, hb, h⟩ := Option.bind_eq_some_iff.1 h
 obtain ⟨s2, hs2, h⟩ := Option.bind_eq_some_iff.1 h
 simp only at hs2 h
 have HA := Aside0.mk ha
 have HBc := Aside0.mk hb
 have HL := Aside0.mk hs2
 have HE := Aside0.mk h
 have HP := Aside0.mk hP
 have HB := Aside0.mk hB
 have HR1 := Aside0.mk hr1
 have HR2 := Aside0.mk hr2
 have HR3 := Aside0.mk hr3
 clear ha hb hs2 h hP hB hr1 hr2 hr3
 go_enter Try.func62, Try.ntmps62
 go_wp2_with fail
 refine (canon_Codes.calls A2 c2 lits a ea w HR2.out.now hc2 HA.out).mono ?_
 rintro e w1 ⟨va, rfl, ho1, hb1⟩
 obtain ⟨Aa, ca, ea1⟩ := Kd.R_slice ho1
 subst ea1
 obtain ⟨ra, _, hca⟩ := readsP_own ho1
 have RA := Aside0.mk ra
 have HB1 := Aside0.mk (below_then HB.out HB.out.size hb1)
 have HK1 := Aside0.mk (KeepP.of_below hb1)
 have HP1 := Aside0.mk (HP.out.below hb1)
 clear ho1 hb1 ra HP HB HA
 go_wp2_with fail
 refine (canon_Codes.calls A3 c3 dists b eb w1 (HR3.out.keep HK1.out).now hc3 HBc.out).mono ?_
 rintro e w2 ⟨vb, rfl, ho2, hb2⟩
 obtain ⟨Ab, cb, eb1⟩ := Kd.R_slice ho2
 subst eb1
 obtain ⟨rb, _, hcb⟩ := readsP_own ho2
 have RB := Aside0.mk rb
 have RA2 := Aside0.mk (RA.out.keep (KeepP.of_below hb2))
 have HB2 := Aside0.mk (below_then HB1.out HB1.out.size hb2)
 have HK2 := Aside0.mk (HK1.out.below hb2)
 have HP2 := Aside0.mk (HP1.out.below hb2)
 have HRl := Aside0.mk (HR2.out.keep HK2.out)
 have HRd := Aside0.mk (HR3.out.keep HK2.out)
 have HRt : Aside0 (ReadsT w2 A1 l) := ⟨fun W hW => HR1.out W (HK2.out.trans hW)⟩
 clear ho2 hb2 rb HP1 HB1 HK1 HBc RA HR2 HR3 HR1
 go_wp2_with fail
 go_loopg [30] l.length (fun kq v30 w' => ∃ (i : Nat) (si : List Int × Nat), v30 = .int .i64 i ∧ i ≤ l.length ∧ Aside0 (kq + i = l.length) ∧ Aside0 (bodyL a lits b dists (l.drop i) si = some s2) ∧ Aside0 (PenAt w0 w' g si) ∧ Aside0 (Below w0.heap.size w0 w') ∧ Aside0 (KeepP w2 w'))
 case atStart => exact ⟨0, s, rfl, Nat.zero_le _, ⟨by omega⟩, HL, HP2, HB2, ⟨KeepP.refl _⟩⟩
 case round =>
  clear HL HP2 HB2
  obtain ⟨i, si, rfl, hi, HG, HL, HP, HB, HK⟩ := hrel
  by_cases hlt : i < l.length
  rotate_left
  ·obtain rfl : i = l.length := by omega
   have h := HL.out
   rw [List.drop_length] at h
   simp only [bodyL] at h
   injection h with h
   subst h
   go_wp2_with fail
   refine (pen_code g Aa A2 ca c2 a lits 256 si sr w0 wr HP.out HB.out (RA2.out.keep HK.out).now hca (HRl.out.keep HK.out).now hc2 HE.out).mono ?_
   rintro e w3 ⟨rfl, hP3, hB3, hK3⟩
   go_wp2_with fail
   go_end0
   exact ⟨rfl, hP3, hB3, HK2.out.trans (HK.out.trans hK3)⟩
  have h := HL.out
  obtain ⟨t, ht⟩ : ∃ t, t = rd_T53 l (i : Int) := ⟨_, rfl⟩
  have hd : l.drop i = t :: l.drop (i + 1) := by
   rw [ht]
   unfold rd_T53
   rw [Int.toNat_natCast, List.getD_eq_getElem?_getD, List.getElem?_eq_getElem hlt]
   exact List.drop_eq_getElem_cons hlt
  rw [hd] at h
  simp only [bodyL] at h
  obtain ⟨s3, hs3, h⟩ := Option.bind_eq_some_iff.1 h
  have HT := Aside0.mk hs3
  have HL1 := Aside0.mk h
  clear h hs3 HL hd
  obtain ⟨ad, ead, k0, k1, k2⟩ := at_T53 (HRt.out wr HK.out) (i : Int) (by omega) (by omega)
  rw [← ht, Int.toNat_natCast] at k0
  rw [← ht, Int.toNat_natCast] at k1 k2
  subst ead
  clear ht
  by_cases h0 : t.f1 = 0
  ·have d0 : (t.f1 == 0) = true := beq_iff_eq.2 h0
   have hT := HT.out
   unfold tokS at hT
   rw [if_pos h0] at hT
   have HT1 := Aside0.mk hT
   clear hT HT h0
   go_wp2_with fail
   have hal : Below wr.heap.size wr (wr.alloc (.cells #[.int .u8 t.f0, .int .i64 t.f1, .int .i64 t.f2] 53)) := (Below.refl _ _).alloc (Nat.le_refl _) _
   have hk0 := KeepP.of_below hal
   refine (pen_code g Aa A2 ca c2 a lits (wrap64 t.f0) si s3 w0 _ (HP.out.below hal) (HB.out.alloc HB.out.size _) ((RA2.out.keep HK.out).keep hk0).now hca ((HRl.out.keep HK.out).keep hk0).now hc2 HT1.out).mono ?_
   rintro e w3 ⟨rfl, hP3, hB3, hK3⟩
   have HP3 := Aside0.mk hP3
   have HB3 := Aside0.mk hB3
   have HK3 := Aside0.mk (HK.out.trans (hk0.trans hK3))
   clear hP3 hB3 hK3 hal hk0 HP HB HK
   go_wp2_with fail
   go_roundg (gk - 1)
   case measure => have := HG.out; omega
   case rel => exact ⟨i + 1, s3, by go_num, by omega, ⟨by have := HG.out; omega⟩, HL1, HP3, HB3, HK3⟩
  ·have d0 : (t.f1 == 0) = false := beq_eq_false_iff_ne.2 h0
   have hT := HT.out
   unfold tokS at hT
   rw [if_neg h0] at hT
   obtain ⟨⟨y1, y2, y3, y4⟩, hs, hT⟩ := Option.bind_eq_some_iff.1 hT
   obtain ⟨s4, h4, hT⟩ := Option.bind_eq_some_iff.1 hT
   obtain ⟨s5, h5, hT⟩ := Option.bind_eq_some_iff.1 hT
   obtain ⟨⟨z1, z2, z3, z4⟩, hz, hT⟩ := Option.bind_eq_some_iff.1 hT
   obtain ⟨s6, h6, hT⟩ := Option.bind_eq_some_iff.1 hT
   have HS := Aside0.mk hs
   have H4 := Aside0.mk h4
   have H5 := Aside0.mk h5
   have HZ := Aside0.mk hz
   have H6 := Aside0.mk h6
   have H7 := Aside0.mk hT
   clear hs h4 h5 hz h6 hT HT h0
   have hal : Below wr.heap.size wr (wr.alloc (.cells #[.int .u8 t.f0, .int .i64 t.f1, .int .i64 t.f2] 53)) := (Below.refl _ _).alloc (Nat.le_refl _) _
   have HAL := Aside0.mk hal
   have BT := Aside0.mk (blk_new wr (.cells #[.int .u8 t.f0, .int .i64 t.f1, .int .i64 t.f2] 53))
   clear hal
   go_wp2_with fail
   refine (sym_Len.calls 400 t.f1 y1 y2 y3 y4 _ HS.out).mono ?_
   rintro e w3 ⟨rfl, hb3⟩
   have hk3 := (KeepP.of_below HAL.out).below hb3
   have HP3 := Aside0.mk ((HP.out.below HAL.out).below hb3)
   have HB3 := Aside0.mk (below_then (HB.out.alloc HB.out.size _) (HB.out.alloc HB.out.size _).size hb3)
   have HK3 := Aside0.mk (HK.out.trans hk3)
   have BT3 : Aside0 (w3.heap[wr.heap.size]? = some (.cells #[.int .u8 t.f0, .int .i64 t.f1, .int .i64 t.f2] 53 (0, 0))) := ⟨(KeepP.of_below hb3).2 _ _ _ BT.out (by decide) (by decide)⟩
   clear hb3 hk3 HP HB HK BT HAL HS
   go_wp2_with fail
   refine (pen_code g Aa A2 ca c2 a lits y1 si s4 w0 w3 HP3.out HB3.out (RA2.out.keep HK3.out).now hca (HRl.out.keep HK3.out).now hc2 H4.out).mono ?_
   rintro e w4 ⟨rfl, hP4, hB4, hK4⟩
   have HP4 := Aside0.mk hP4
   have HB4 := Aside0.mk hB4
   have HK4 := Aside0.mk (HK3.out.trans hK4)
   have BT4 := Aside0.mk (hK4.2 _ _ _ BT3.out (by decide) (by decide))
   clear hP4 hB4 hK4 HP3 HB3 HK3 BT3 H4
   go_wp2_with fail
   refine (pen_more g y3 y2 s4 s5 w0 w4 HP4.out HB4.out H5.out).mono ?_
   rintro e w5 ⟨rfl, hP5, hB5, hK5⟩
   have HP5 := Aside0.mk hP5
   have HB5 := Aside0.mk hB5
   have HK5 := Aside0.mk (HK4.out.trans hK5)
   have BT5 := Aside0.mk (hK5.2 _ _ _ BT4.out (by decide) (by decide))
   clear hP5 hB5 hK5 HP4 HB4 HK4 BT4 H5
   have hcz2 : w5.cell? ⟨wr.heap.size, 2, none⟩ = some (.int .i64 t.f2) := (blk_cell BT5.out 2).trans rfl
   go_wp2_with fail
   refine (sym_Dist.calls 400 t.f2 z1 z2 z3 z4 w5 HZ.out).mono ?_
   rintro e w6 ⟨rfl, hb6⟩
   have HP6 := Aside0.mk (HP5.out.below hb6)
   have HB6 := Aside0.mk (below_then HB5.out HB5.out.size hb6)
   have HK6 := Aside0.mk (HK5.out.below hb6)
   clear hb6 HP5 HB5 HK5 BT5 HZ hcz2
   go_wp2_with fail
   refine (pen_code g Ab A3 cb c3 b dists z1 s5 s6 w0 w6 HP6.out HB6.out (RB.out.keep HK6.out).now hcb (HRd.out.keep HK6.out).now hc3 H6.out).mono ?_
   rintro e w7 ⟨rfl, hP7, hB7, hK7⟩
   have HP7 := Aside0.mk hP7
   have HB7 := Aside0.mk hB7
   have HK7 := Aside0.mk (HK6.out.trans hK7)
   clear hP7 hB7 hK7 HP6 HB6 HK6 H6
   go_wp2_with fail
   refine (pen_more g z3 z2 s6 s3 w0 w7 HP7.out HB7.out H7.out).mono ?_
   rintro e w8 ⟨rfl, hP8, hB8, hK8⟩
   have HP8 := Aside0.mk hP8
   have HB8 := Aside0.mk hB8
   have HK8 := Aside0.mk (HK7.out.trans hK8)
   clear hP8 hB8 hK8 HP7 HB7 HK7 H7
   go_wp2_with fail
   go_roundg (gk - 1)
   case measure => have := HG.out; omega
   case rel => exact ⟨i + 1, s3, by go_num, by omega, ⟨by have := HG.out; omega⟩, HL1, HP8, HB8, HK8⟩

/-! ### shrink_known: function 35 (by hand) -/
theorem tokrow_keepP {W W1 : World} {base : Nat} {ok : Nat → Prop} {v : Value} {l : List S53} (h : Kd.R k53 53 W base ok v l) (hk : KeepP W W1) : Kd.R k53 53 W1 base ok v l := by
 refine Kd.R_mono (Kd.R_move (Kd.R_bound h) (fun k hk' => ?_)) (fun _ hk' => hk'.1)
 obtain ⟨_, _, _, q, hq, cells, hc⟩ := hk'
 have hq' : q = 53 := by simpa [k53, Kd.iso, Kd.pair, Kd.int, Kd.scalar] using hq
 subst hq'
 exact (hk.2 k cells _ hc (by decide) (by decide)).trans hc.symm
theorem readsT_own {w : World} {base : Nat} {ok : Nat → Prop} {A : Option Addr} {n c : Nat} {l : List S53} (h : Kd.R k53 53 w base ok (.slice A n c) l) : ReadsT w A l ∧ n = l.length ∧ l.length ≤ c :=
 ⟨fun W hW => (Kd.R_reads' (tokrow_keepP h hW)).2.2, (Kd.R_reads' h).1, by have h1 := (Kd.R_reads' h).1; have h2 := (Kd.R_reads' h).2.1; omega⟩
theorem ReadsT.keep {w w1 : World} {A : Option Addr} {l : List S53} (h : ReadsT w A l) (hk : KeepP w w1) : ReadsT w1 A l := fun W hW => h W (hk.trans hW)
/-- Tokens by the fixed lengths. -/
def knownS (l : List S53) : Option (List Int × Nat) := (beginS 1).bind fun s => (sym_Fixed.f 1000).bind fun f => bodyS l f.1 f.2 s
set_option maxHeartbeats 8000000 in
set_option maxRecDepth 100000 in
theorem shr_known (A0 : Option Addr) (c0 : Nat) (l : List S53) (sr : List Int × Nat) (w : World) (hr0 : ReadsT w A0 l) (hc0 : l.length ≤ c0) (hl : l.length ≤ 1000000) (h : knownS l = some sr) :
  Calls Try.prog 35 #[.slice A0 l.length c0] w fun e w' => ∃ g, e = .returned (.pointer (some ⟨g, 0, none⟩)) ∧ PenAt w w' g sr ∧ Below w.heap.size w w' := by
 unfold knownS at h
 obtain ⟨s1, h1, h⟩ := Option.bind_eq_some_iff.1 h
 obtain ⟨⟨r1, r2⟩, h2, h⟩ := Option.bind_eq_some_iff.1 h
 have H1 := Aside0.mk h1
 have H2 := Aside0.mk h2
 have HL := Aside0.mk h
 have HR := Aside0.mk hr0
 clear h1 h2 h hr0
 go_enter Try.func35, Try.ntmps35
 go_wp2_with fail
 refine (shr_begin 1 s1 w H1.out).mono ?_
 rintro e w1 ⟨g, rfl, hP1, hB1⟩
 have HP1 := Aside0.mk hP1
 have HB1 := Aside0.mk hB1
 clear hP1 hB1 H1
 go_wp2_with fail
 refine (sym_Fixed.calls 1000 r1 r2 w1 H2.out).mono ?_
 rintro e w2 ⟨v1, v2, rfl, ho1, ho2, hb2⟩
 obtain ⟨A1, c1, e1⟩ := Kd.R_slice ho1
 subst e1
 obtain ⟨A2, c2, e2⟩ := Kd.R_slice ho2
 subst e2
 obtain ⟨ra, _, hca⟩ := readsP_own ho1
 obtain ⟨rb, _, hcb⟩ := readsP_own ho2
 have RA := Aside0.mk ra
 have RB := Aside0.mk rb
 have HP2 := Aside0.mk (HP1.out.below hb2)
 have HB2 := Aside0.mk (below_then HB1.out HB1.out.size hb2)
 clear ra rb hb2 ho1 ho2 HP1 HB1 H2
 go_wp2_with fail
 refine (pen_body g A0 A1 A2 c0 c1 c2 l r1 r2 s1 sr w w2 HP2.out HB2.out (HR.out.keep (KeepP.of_below HB2.out)) hc0 hl RA.out hca RB.out hcb HL.out).mono ?_
 rintro e w3 ⟨rfl, hP3, hB3, _⟩
 go_wp2_with fail
 go_ret
 exact ⟨g, rfl, hP3, hB3⟩

/-! ### shrink_next: function 77 -/
mutual
def shrink_next.j0 : Nat → Int → Int → Int → Bool → Option (Int × Int × Int × Int)
 | 0, _, _, _, _ => none
 | k + 1, x0, x1, x2, x9 => if x9 = true then (some (18, wrap64 ((mn x2 138) - 11), 7, mn x2 138)) else (if x0 = 0 then (shrink_next.j1 k x0 x1 x2 (decide (x2 ≥ 3))) else (shrink_next.j1 k x0 x1 x2 false))
def shrink_next.j1 : Nat → Int → Int → Int → Bool → Option (Int × Int × Int × Int)
 | 0, _, _, _, _ => none
 | k + 1, x0, x1, x2, x22 => if x22 = true then (some (17, wrap64 (x2 - 3), 3, x2)) else (if x0 = 0 then (some (x0, 0, 0, 1)) else (if x0 = x1 then (if x2 ≥ 3 then (some (16, wrap64 ((mn x2 6) - 3), 2, mn x2 6)) else (some (x0, 0, 0, 1))) else (some (x0, 0, 0, 1))))
end
def shrink_next.f (k : Nat) (a0 : Int) (a1 : Int) (a2 : Int) : Option (Int × Int × Int × Int) := if a0 = 0 then (shrink_next.j0 k a0 a1 a2 (decide (a2 ≥ 11))) else (shrink_next.j0 k a0 a1 a2 false)
set_option maxHeartbeats 8000000 in
set_option maxRecDepth 100000 in
theorem shrink_next.calls (k : Nat) (a0 : Int) (a1 : Int) (a2 : Int) (r1 : Int) (r2 : Int) (r3 : Int) (r4 : Int) (w : World) (h : shrink_next.f k a0 a1 a2 = some (r1, r2, r3, r4)) :
  Calls Try.prog 77 #[.int .i64 a0, .int .i64 a1, .int .i64 a2] w fun e w' => e = .returned (.agg #[.int .i64 r1, .int .i64 r2, .int .i64 r3, .int .i64 r4]) ∧ Below w.heap.size w w' := by
 have hu76 := Try.underlying76
 have HB := Aside0.mk (Below.refl w.heap.size w)
 have H : (if a0 = 0 then (shrink_next.j0 k a0 a1 a2 (decide (a2 ≥ 11))) else (shrink_next.j0 k a0 a1 a2 false)) = some (r1, r2, r3, r4) := h
 clear h
 have HC4 := Aside0.mk H
 clear H
 go_enter Try.func77, Try.ntmps77
 go_upto_region 1 with (first | ((with_reducible refine gate_dst (N := 6) rfl ?_); refine box_event ?hg (N := 6) ?hd (cs := #[.int .i64 0, .int .i64 0, .int .i64 0, .int .i64 0]) (t := 76) ?hr ?_; (case hd => rfl); (case hg => rfl); (case hr => first | (go_simp; done) | (go_simp; rfl)); intro gb136 hg w5 hbox hb; have n0_ := Aside0.mk (below_step (by repeat (first | (with_reducible first | exact HB.out | apply below_alloc | apply pw_below_drewN | apply below_drew1) | exact HB.out)) hb); have n1_ := Aside0.mk (hbox); have n2_ := Aside0.mk ((by rw [hg]; exact (below_size (by repeat (first | (with_reducible first | exact HB.out | apply below_alloc | apply pw_below_drewN | apply below_drew1) | exact HB.out))) : w.heap.size ≤ gb136)); have n3_ := Aside0.mk ((by rw [hg]; exact (below_size (by repeat (first | (with_reducible first | exact HB.out | apply below_alloc | apply pw_below_drewN | apply below_drew1) | exact HB.out))) : w.heap.size ≤ gb136)); clear HB; have HB := n0_; have BK136 := n1_; have GW136 := n2_; have GE136 := n3_; clear n0_ n1_ n2_ n3_; clear hb hbox hg))
 (try simp only [Act.put, setIfInBounds_toArray, set_cons_zero, set_cons_succ])
 go_cut [9] (fun v9 wc => ∃ (kq : Nat) (x9_3 : Bool), v9 = .bool x9_3 ∧ Aside0 (shrink_next.j0 kq a0 a1 a2 x9_3 = some (r1, r2, r3, r4)) ∧ Aside0 (kq ≤ k) ∧ Aside0 (wc.heap[gb136]? = some (.cells #[.int .i64 0, .int .i64 0, .int .i64 0, .int .i64 0] 76 (0, 0))) ∧ Aside0 (Below w.heap.size w wc))
 case first =>
  have H := HC4.out
  clear HC4
  by_cases c6 : a0 = 0
  ·rw [if_pos c6] at H
   have c6b0 : (a0 == 0) = true := beq_iff_eq.mpr c6
   have c6b1 : (a0 != 0) = false := bne_eq_false_iff_eq.mpr c6
   clear c6
   (first | rw [c6b0] | (simp only [i64_w, i32_w]; rw [c6b0]) | skip)
   have H' := Aside0.mk H
   clear H
   go_wp2
   go_meet
   case rel => exact ⟨_, (decide (a2 ≥ 11)), (by first | rfl | (simp; done) | (simp [*]; done)), H', ⟨by first | omega | exact Nat.le_refl _⟩, ⟨by (with_reducible repeat (first | refine blk_drewN ?_ _ | refine blk_drew ?_ | refine blk_alloc ?_ _)); exact BK136.out⟩, ⟨by repeat (first | (with_reducible first | exact HB.out | apply below_alloc | apply pw_below_drewN | apply below_drew1 | refine below_set ?_ GE136.out) | exact HB.out)⟩⟩
  ·rw [if_neg c6] at H
   have c6b0 : (a0 == 0) = false := beq_eq_false_iff_ne.mpr c6
   have c6b1 : (a0 != 0) = true := bne_iff_ne.mpr c6
   (first | rw [c6b0] | (simp only [i64_w, i32_w]; rw [c6b0]) | skip)
   have H' := Aside0.mk H
   clear H
   go_wp2
   go_meet
   case rel => exact ⟨_, (false), (by first | rfl | (simp; done) | (simp [*]; done)), H', ⟨by first | omega | exact Nat.le_refl _⟩, ⟨by (with_reducible repeat (first | refine blk_drewN ?_ _ | refine blk_drew ?_ | refine blk_alloc ?_ _)); exact BK136.out⟩, ⟨by repeat (first | (with_reducible first | exact HB.out | apply below_alloc | apply pw_below_drewN | apply below_drew1 | refine below_set ?_ GE136.out) | exact HB.out)⟩⟩
 case rest =>
  clear HC4
  try clear p2
  try clear c6
  try clear c6b0
  try clear c6b1
  obtain ⟨kq, x9_3, rfl, HA, HJ3, BK136, HB⟩ := hcut
  cases kq with
  | zero => exact absurd HA.out (by simp [shrink_next.j0])
  | succ kj3 =>
   have H := HA.out
   clear HA
   simp only [shrink_next.j0] at H
   by_cases c7 : x9_3 = true
   ·subst c7
    have H1 : (some (18, wrap64 ((mn a2 138) - 11), 7, mn a2 138)) = some (r1, r2, r3, r4) := by rw [if_pos rfl] at H; exact H
    clear H
    have H := H1
    clear H1
    obtain ⟨ji8, hji8⟩ : ∃ j_ : Int, (mn a2 138) = j_ := ⟨_, rfl⟩
    replace H : (some (18, wrap64 ((ji8) - 11), 7, ji8)) = some (r1, r2, r3, r4) := by first | (rw [hji8] at H; exact H) | (simp only [hji8] at H ⊢; exact H)
    have hji8_ : (if 138 < a2 then 138 else a2) = ji8 := hji8
    simp only [Option.some.injEq, Prod.mk.injEq] at H
    obtain ⟨rfl, rfl, rfl, rfl⟩ := H
    have hcz9_0 : wc.cell? ⟨gb136, 0, none⟩ = some (.int .i64 0) := (blk_cell BK136.out 0).trans rfl
    have hcz9_1 : wc.cell? ⟨gb136, 1, none⟩ = some (.int .i64 0) := (blk_cell BK136.out 1).trans rfl
    have hcz9_2 : wc.cell? ⟨gb136, 2, none⟩ = some (.int .i64 0) := (blk_cell BK136.out 2).trans rfl
    have hcz9_3 : wc.cell? ⟨gb136, 3, none⟩ = some (.int .i64 0) := (blk_cell BK136.out 3).trans rfl
    have hfz9_0 := blk_frozen BK136.out 0
    have hfz9_1 := blk_frozen BK136.out 1
    have hfz9_2 := blk_frozen BK136.out 2
    have hfz9_3 := blk_frozen BK136.out 3
    go_wp2
    refine bodyPost_ret (results_cell_row rfl _ _ gb136 76 #[.int .i64 18, .int .i64 (wrap64 ((ji8) - 11)), .int .i64 7, .int .i64 ji8] (0, 0) _ rfl (by (with_reducible repeat (first | refine blk_drewN ?_ _ | refine blk_drew ?_ | refine blk_alloc ?_ _)); refine blk_put (cs := #[.int .i64 18, .int .i64 (wrap64 ((ji8) - 11)), .int .i64 7, .int .i64 0]) ?_ 3 _ rfl; (with_reducible repeat (first | refine blk_drewN ?_ _ | refine blk_drew ?_ | refine blk_alloc ?_ _)); refine blk_put (cs := #[.int .i64 18, .int .i64 (wrap64 ((ji8) - 11)), .int .i64 0, .int .i64 0]) ?_ 2 _ rfl; (with_reducible repeat (first | refine blk_drewN ?_ _ | refine blk_drew ?_ | refine blk_alloc ?_ _)); refine blk_put (cs := #[.int .i64 18, .int .i64 0, .int .i64 0, .int .i64 0]) ?_ 1 _ rfl; (with_reducible repeat (first | refine blk_drewN ?_ _ | refine blk_drew ?_ | refine blk_alloc ?_ _)); refine blk_put (cs := #[.int .i64 0, .int .i64 0, .int .i64 0, .int .i64 0]) ?_ 0 _ rfl; (with_reducible repeat (first | refine blk_drewN ?_ _ | refine blk_drew ?_ | refine blk_alloc ?_ _)); exact BK136.out) Try.underlying76 rfl (by kernel_rfl)) rfl ?_
    exact ⟨by first | rfl | (simp [errW_none, errW_some] <;> rfl) | (simp only [← hji8]; first | rfl | (simp [errW_none, errW_some] <;> rfl)) | (simp [*, errW_none, errW_some] <;> rfl), by repeat (first | (with_reducible first | exact HB.out | apply below_alloc | apply pw_below_drewN | apply below_drew1 | refine below_set ?_ GE136.out) | exact HB.out)⟩
   ·replace c7 := Bool.eq_false_iff.mpr c7
    subst c7
    have H1 : (if a0 = 0 then (shrink_next.j1 kj3 a0 a1 a2 (decide (a2 ≥ 3))) else (shrink_next.j1 kj3 a0 a1 a2 false)) = some (r1, r2, r3, r4) := by rw [if_neg (show ¬ (false = true) by decide)] at H; exact H
    clear H
    have H := H1
    clear H1
    have HC10 := Aside0.mk H
    clear H
    go_upto_region 4 with (fail)
    go_cut [22] (fun v22 wc => ∃ (kq : Nat) (x22_9 : Bool), v22 = .bool x22_9 ∧ Aside0 (shrink_next.j1 kq a0 a1 a2 x22_9 = some (r1, r2, r3, r4)) ∧ Aside0 (kq ≤ kj3) ∧ Aside0 (wc.heap[gb136]? = some (.cells #[.int .i64 0, .int .i64 0, .int .i64 0, .int .i64 0] 76 (0, 0))) ∧ Aside0 (Below w.heap.size w wc))
    case first =>
     have H := HC10.out
     clear HC10
     by_cases c11 : a0 = 0
     ·rw [if_pos c11] at H
      have c11b0 : (a0 == 0) = true := beq_iff_eq.mpr c11
      have c11b1 : (a0 != 0) = false := bne_eq_false_iff_eq.mpr c11
      clear c11
      (first | rw [c11b0] | (simp only [i64_w, i32_w]; rw [c11b0]) | skip)
      have H' := Aside0.mk H
      clear H
      go_wp2
      go_meet
      case rel => exact ⟨_, (decide (a2 ≥ 3)), (by first | rfl | (simp; done) | (simp [*]; done)), H', ⟨by have := HJ3.out; first | omega | exact Nat.le_refl _⟩, ⟨by (with_reducible repeat (first | refine blk_drewN ?_ _ | refine blk_drew ?_ | refine blk_alloc ?_ _)); exact BK136.out⟩, ⟨by repeat (first | (with_reducible first | exact HB.out | apply below_alloc | apply pw_below_drewN | apply below_drew1 | refine below_set ?_ GE136.out) | exact HB.out)⟩⟩
     ·rw [if_neg c11] at H
      have c11b0 : (a0 == 0) = false := beq_eq_false_iff_ne.mpr c11
      have c11b1 : (a0 != 0) = true := bne_iff_ne.mpr c11
      (first | rw [c11b0] | (simp only [i64_w, i32_w]; rw [c11b0]) | skip)
      have H' := Aside0.mk H
      clear H
      go_wp2
      go_meet
      case rel => exact ⟨_, (false), (by first | rfl | (simp; done) | (simp [*]; done)), H', ⟨by have := HJ3.out; first | omega | exact Nat.le_refl _⟩, ⟨by (with_reducible repeat (first | refine blk_drewN ?_ _ | refine blk_drew ?_ | refine blk_alloc ?_ _)); exact BK136.out⟩, ⟨by repeat (first | (with_reducible first | exact HB.out | apply below_alloc | apply pw_below_drewN | apply below_drew1 | refine below_set ?_ GE136.out) | exact HB.out)⟩⟩
    case rest =>
     clear HC10
     try clear c1
     try clear p2
     try clear c6
     try clear c6b0
     try clear c6b1
     try clear p6
     try clear c7
     try clear c11
     try clear c11b0
     try clear c11b1
     try clear hcz9_0
     try clear hcz9_1
     try clear hcz9_2
     try clear hcz9_3
     try clear hfz9_0
     try clear hfz9_1
     try clear hfz9_2
     try clear hfz9_3
     try clear p2
     obtain ⟨kq, x22_9, rfl, HA, HJ9, BK136, HB⟩ := hcut
     cases kq with
     | zero => exact absurd HA.out (by simp [shrink_next.j1])
     | succ kj9 =>
      have H := HA.out
      clear HA
      simp only [shrink_next.j1] at H
      by_cases c12 : x22_9 = true
      ·subst c12
       have H1 : (some (17, wrap64 (a2 - 3), 3, a2)) = some (r1, r2, r3, r4) := by rw [if_pos rfl] at H; exact H
       clear H
       have H := H1
       clear H1
       simp only [Option.some.injEq, Prod.mk.injEq] at H
       obtain ⟨rfl, rfl, rfl, rfl⟩ := H
       have hcz13_0 : wc.cell? ⟨gb136, 0, none⟩ = some (.int .i64 0) := (blk_cell BK136.out 0).trans rfl
       have hcz13_1 : wc.cell? ⟨gb136, 1, none⟩ = some (.int .i64 0) := (blk_cell BK136.out 1).trans rfl
       have hcz13_2 : wc.cell? ⟨gb136, 2, none⟩ = some (.int .i64 0) := (blk_cell BK136.out 2).trans rfl
       have hcz13_3 : wc.cell? ⟨gb136, 3, none⟩ = some (.int .i64 0) := (blk_cell BK136.out 3).trans rfl
       have hfz13_0 := blk_frozen BK136.out 0
       have hfz13_1 := blk_frozen BK136.out 1
       have hfz13_2 := blk_frozen BK136.out 2
       have hfz13_3 := blk_frozen BK136.out 3
       go_wp2
       refine bodyPost_ret (results_cell_row rfl _ _ gb136 76 #[.int .i64 17, .int .i64 (wrap64 (a2 - 3)), .int .i64 3, .int .i64 a2] (0, 0) _ rfl (by (with_reducible repeat (first | refine blk_drewN ?_ _ | refine blk_drew ?_ | refine blk_alloc ?_ _)); refine blk_put (cs := #[.int .i64 17, .int .i64 (wrap64 (a2 - 3)), .int .i64 3, .int .i64 0]) ?_ 3 _ rfl; (with_reducible repeat (first | refine blk_drewN ?_ _ | refine blk_drew ?_ | refine blk_alloc ?_ _)); refine blk_put (cs := #[.int .i64 17, .int .i64 (wrap64 (a2 - 3)), .int .i64 0, .int .i64 0]) ?_ 2 _ rfl; (with_reducible repeat (first | refine blk_drewN ?_ _ | refine blk_drew ?_ | refine blk_alloc ?_ _)); refine blk_put (cs := #[.int .i64 17, .int .i64 0, .int .i64 0, .int .i64 0]) ?_ 1 _ rfl; (with_reducible repeat (first | refine blk_drewN ?_ _ | refine blk_drew ?_ | refine blk_alloc ?_ _)); refine blk_put (cs := #[.int .i64 0, .int .i64 0, .int .i64 0, .int .i64 0]) ?_ 0 _ rfl; (with_reducible repeat (first | refine blk_drewN ?_ _ | refine blk_drew ?_ | refine blk_alloc ?_ _)); exact BK136.out) Try.underlying76 rfl (by kernel_rfl)) rfl ?_
       exact ⟨by first | rfl | (simp [errW_none, errW_some] <;> rfl) | (simp [*, errW_none, errW_some] <;> rfl), by repeat (first | (with_reducible first | exact HB.out | apply below_alloc | apply pw_below_drewN | apply below_drew1 | refine below_set ?_ GE136.out) | exact HB.out)⟩
      ·replace c12 := Bool.eq_false_iff.mpr c12
       subst c12
       have H1 : (if a0 = 0 then (some (a0, 0, 0, 1)) else (if a0 = a1 then (if a2 ≥ 3 then (some (16, wrap64 ((mn a2 6) - 3), 2, mn a2 6)) else (some (a0, 0, 0, 1))) else (some (a0, 0, 0, 1)))) = some (r1, r2, r3, r4) := by rw [if_neg (show ¬ (false = true) by decide)] at H; exact H
       clear H
       have H := H1
       clear H1
       by_cases c14 : a0 = 0
       ·rw [if_pos c14] at H
        have c14b0 : (a0 == 0) = true := beq_iff_eq.mpr c14
        have c14b1 : (a0 != 0) = false := bne_eq_false_iff_eq.mpr c14
        clear c14
        simp only [Option.some.injEq, Prod.mk.injEq] at H
        obtain ⟨rfl, rfl, rfl, rfl⟩ := H
        have hcz15_0 : wc.cell? ⟨gb136, 0, none⟩ = some (.int .i64 0) := (blk_cell BK136.out 0).trans rfl
        have hcz15_1 : wc.cell? ⟨gb136, 1, none⟩ = some (.int .i64 0) := (blk_cell BK136.out 1).trans rfl
        have hcz15_2 : wc.cell? ⟨gb136, 2, none⟩ = some (.int .i64 0) := (blk_cell BK136.out 2).trans rfl
        have hcz15_3 : wc.cell? ⟨gb136, 3, none⟩ = some (.int .i64 0) := (blk_cell BK136.out 3).trans rfl
        have hfz15_0 := blk_frozen BK136.out 0
        have hfz15_1 := blk_frozen BK136.out 1
        have hfz15_2 := blk_frozen BK136.out 2
        have hfz15_3 := blk_frozen BK136.out 3
        go_wp2
        refine bodyPost_ret (results_cell_row rfl _ _ gb136 76 #[.int .i64 a0, .int .i64 0, .int .i64 0, .int .i64 1] (0, 0) _ rfl (by (with_reducible repeat (first | refine blk_drewN ?_ _ | refine blk_drew ?_ | refine blk_alloc ?_ _)); refine blk_put (cs := #[.int .i64 a0, .int .i64 0, .int .i64 0, .int .i64 0]) ?_ 3 _ rfl; (with_reducible repeat (first | refine blk_drewN ?_ _ | refine blk_drew ?_ | refine blk_alloc ?_ _)); refine blk_put (cs := #[.int .i64 a0, .int .i64 0, .int .i64 0, .int .i64 0]) ?_ 2 _ rfl; (with_reducible repeat (first | refine blk_drewN ?_ _ | refine blk_drew ?_ | refine blk_alloc ?_ _)); refine blk_put (cs := #[.int .i64 a0, .int .i64 0, .int .i64 0, .int .i64 0]) ?_ 1 _ rfl; (with_reducible repeat (first | refine blk_drewN ?_ _ | refine blk_drew ?_ | refine blk_alloc ?_ _)); refine blk_put (cs := #[.int .i64 0, .int .i64 0, .int .i64 0, .int .i64 0]) ?_ 0 _ rfl; (with_reducible repeat (first | refine blk_drewN ?_ _ | refine blk_drew ?_ | refine blk_alloc ?_ _)); exact BK136.out) Try.underlying76 rfl (by kernel_rfl)) rfl ?_
        exact ⟨by first | rfl | (simp [errW_none, errW_some] <;> rfl) | (simp [*, errW_none, errW_some] <;> rfl), by repeat (first | (with_reducible first | exact HB.out | apply below_alloc | apply pw_below_drewN | apply below_drew1 | refine below_set ?_ GE136.out) | exact HB.out)⟩
       ·rw [if_neg c14] at H
        have c14b0 : (a0 == 0) = false := beq_eq_false_iff_ne.mpr c14
        have c14b1 : (a0 != 0) = true := bne_iff_ne.mpr c14
        by_cases c16 : a0 = a1
        ·rw [if_pos c16] at H
         have c16b0 : (a0 == a1) = true := beq_iff_eq.mpr c16
         have c16b1 : (a0 != a1) = false := bne_eq_false_iff_eq.mpr c16
         clear c16
         by_cases c17 : a2 ≥ 3
         ·rw [if_pos c17] at H
          have c17b0 : decide (3 ≤ a2) = true := decide_eq_true c17
          clear c17
          obtain ⟨ji18, hji18⟩ : ∃ j_ : Int, (mn a2 6) = j_ := ⟨_, rfl⟩
          replace H : (some (16, wrap64 ((ji18) - 3), 2, ji18)) = some (r1, r2, r3, r4) := by first | (rw [hji18] at H; exact H) | (simp only [hji18] at H ⊢; exact H)
          have hji18_ : (if 6 < a2 then 6 else a2) = ji18 := hji18
          simp only [Option.some.injEq, Prod.mk.injEq] at H
          obtain ⟨rfl, rfl, rfl, rfl⟩ := H
          have hcz19_0 : wc.cell? ⟨gb136, 0, none⟩ = some (.int .i64 0) := (blk_cell BK136.out 0).trans rfl
          have hcz19_1 : wc.cell? ⟨gb136, 1, none⟩ = some (.int .i64 0) := (blk_cell BK136.out 1).trans rfl
          have hcz19_2 : wc.cell? ⟨gb136, 2, none⟩ = some (.int .i64 0) := (blk_cell BK136.out 2).trans rfl
          have hcz19_3 : wc.cell? ⟨gb136, 3, none⟩ = some (.int .i64 0) := (blk_cell BK136.out 3).trans rfl
          have hfz19_0 := blk_frozen BK136.out 0
          have hfz19_1 := blk_frozen BK136.out 1
          have hfz19_2 := blk_frozen BK136.out 2
          have hfz19_3 := blk_frozen BK136.out 3
          go_wp2
          refine bodyPost_ret (results_cell_row rfl _ _ gb136 76 #[.int .i64 16, .int .i64 (wrap64 ((ji18) - 3)), .int .i64 2, .int .i64 ji18] (0, 0) _ rfl (by (with_reducible repeat (first | refine blk_drewN ?_ _ | refine blk_drew ?_ | refine blk_alloc ?_ _)); refine blk_put (cs := #[.int .i64 16, .int .i64 (wrap64 ((ji18) - 3)), .int .i64 2, .int .i64 0]) ?_ 3 _ rfl; (with_reducible repeat (first | refine blk_drewN ?_ _ | refine blk_drew ?_ | refine blk_alloc ?_ _)); refine blk_put (cs := #[.int .i64 16, .int .i64 (wrap64 ((ji18) - 3)), .int .i64 0, .int .i64 0]) ?_ 2 _ rfl; (with_reducible repeat (first | refine blk_drewN ?_ _ | refine blk_drew ?_ | refine blk_alloc ?_ _)); refine blk_put (cs := #[.int .i64 16, .int .i64 0, .int .i64 0, .int .i64 0]) ?_ 1 _ rfl; (with_reducible repeat (first | refine blk_drewN ?_ _ | refine blk_drew ?_ | refine blk_alloc ?_ _)); refine blk_put (cs := #[.int .i64 0, .int .i64 0, .int .i64 0, .int .i64 0]) ?_ 0 _ rfl; (with_reducible repeat (first | refine blk_drewN ?_ _ | refine blk_drew ?_ | refine blk_alloc ?_ _)); exact BK136.out) Try.underlying76 rfl (by kernel_rfl)) rfl ?_
          exact ⟨by first | rfl | (simp [errW_none, errW_some] <;> rfl) | (simp only [← hji18]; first | rfl | (simp [errW_none, errW_some] <;> rfl)) | (simp [*, errW_none, errW_some] <;> rfl), by repeat (first | (with_reducible first | exact HB.out | apply below_alloc | apply pw_below_drewN | apply below_drew1 | refine below_set ?_ GE136.out) | exact HB.out)⟩
         ·rw [if_neg c17] at H
          have c17b0 : decide (3 ≤ a2) = false := decide_eq_false c17
          clear c17
          simp only [Option.some.injEq, Prod.mk.injEq] at H
          obtain ⟨rfl, rfl, rfl, rfl⟩ := H
          have hcz20_0 : wc.cell? ⟨gb136, 0, none⟩ = some (.int .i64 0) := (blk_cell BK136.out 0).trans rfl
          have hcz20_1 : wc.cell? ⟨gb136, 1, none⟩ = some (.int .i64 0) := (blk_cell BK136.out 1).trans rfl
          have hcz20_2 : wc.cell? ⟨gb136, 2, none⟩ = some (.int .i64 0) := (blk_cell BK136.out 2).trans rfl
          have hcz20_3 : wc.cell? ⟨gb136, 3, none⟩ = some (.int .i64 0) := (blk_cell BK136.out 3).trans rfl
          have hfz20_0 := blk_frozen BK136.out 0
          have hfz20_1 := blk_frozen BK136.out 1
          have hfz20_2 := blk_frozen BK136.out 2
          have hfz20_3 := blk_frozen BK136.out 3
          go_wp2
          refine bodyPost_ret (results_cell_row rfl _ _ gb136 76 #[.int .i64 a0, .int .i64 0, .int .i64 0, .int .i64 1] (0, 0) _ rfl (by (with_reducible repeat (first | refine blk_drewN ?_ _ | refine blk_drew ?_ | refine blk_alloc ?_ _)); refine blk_put (cs := #[.int .i64 a0, .int .i64 0, .int .i64 0, .int .i64 0]) ?_ 3 _ rfl; (with_reducible repeat (first | refine blk_drewN ?_ _ | refine blk_drew ?_ | refine blk_alloc ?_ _)); refine blk_put (cs := #[.int .i64 a0, .int .i64 0, .int .i64 0, .int .i64 0]) ?_ 2 _ rfl; (with_reducible repeat (first | refine blk_drewN ?_ _ | refine blk_drew ?_ | refine blk_alloc ?_ _)); refine blk_put (cs := #[.int .i64 a0, .int .i64 0, .int .i64 0, .int .i64 0]) ?_ 1 _ rfl; (with_reducible repeat (first | refine blk_drewN ?_ _ | refine blk_drew ?_ | refine blk_alloc ?_ _)); refine blk_put (cs := #[.int .i64 0, .int .i64 0, .int .i64 0, .int .i64 0]) ?_ 0 _ rfl; (with_reducible repeat (first | refine blk_drewN ?_ _ | refine blk_drew ?_ | refine blk_alloc ?_ _)); exact BK136.out) Try.underlying76 rfl (by kernel_rfl)) rfl ?_
          exact ⟨by first | rfl | (simp [errW_none, errW_some] <;> rfl) | (simp [*, errW_none, errW_some] <;> rfl), by repeat (first | (with_reducible first | exact HB.out | apply below_alloc | apply pw_below_drewN | apply below_drew1 | refine below_set ?_ GE136.out) | exact HB.out)⟩
        ·rw [if_neg c16] at H
         have c16b0 : (a0 == a1) = false := beq_eq_false_iff_ne.mpr c16
         have c16b1 : (a0 != a1) = true := bne_iff_ne.mpr c16
         simp only [Option.some.injEq, Prod.mk.injEq] at H
         obtain ⟨rfl, rfl, rfl, rfl⟩ := H
         have hcz21_0 : wc.cell? ⟨gb136, 0, none⟩ = some (.int .i64 0) := (blk_cell BK136.out 0).trans rfl
         have hcz21_1 : wc.cell? ⟨gb136, 1, none⟩ = some (.int .i64 0) := (blk_cell BK136.out 1).trans rfl
         have hcz21_2 : wc.cell? ⟨gb136, 2, none⟩ = some (.int .i64 0) := (blk_cell BK136.out 2).trans rfl
         have hcz21_3 : wc.cell? ⟨gb136, 3, none⟩ = some (.int .i64 0) := (blk_cell BK136.out 3).trans rfl
         have hfz21_0 := blk_frozen BK136.out 0
         have hfz21_1 := blk_frozen BK136.out 1
         have hfz21_2 := blk_frozen BK136.out 2
         have hfz21_3 := blk_frozen BK136.out 3
         go_wp2
         refine bodyPost_ret (results_cell_row rfl _ _ gb136 76 #[.int .i64 a0, .int .i64 0, .int .i64 0, .int .i64 1] (0, 0) _ rfl (by (with_reducible repeat (first | refine blk_drewN ?_ _ | refine blk_drew ?_ | refine blk_alloc ?_ _)); refine blk_put (cs := #[.int .i64 a0, .int .i64 0, .int .i64 0, .int .i64 0]) ?_ 3 _ rfl; (with_reducible repeat (first | refine blk_drewN ?_ _ | refine blk_drew ?_ | refine blk_alloc ?_ _)); refine blk_put (cs := #[.int .i64 a0, .int .i64 0, .int .i64 0, .int .i64 0]) ?_ 2 _ rfl; (with_reducible repeat (first | refine blk_drewN ?_ _ | refine blk_drew ?_ | refine blk_alloc ?_ _)); refine blk_put (cs := #[.int .i64 a0, .int .i64 0, .int .i64 0, .int .i64 0]) ?_ 1 _ rfl; (with_reducible repeat (first | refine blk_drewN ?_ _ | refine blk_drew ?_ | refine blk_alloc ?_ _)); refine blk_put (cs := #[.int .i64 0, .int .i64 0, .int .i64 0, .int .i64 0]) ?_ 0 _ rfl; (with_reducible repeat (first | refine blk_drewN ?_ _ | refine blk_drew ?_ | refine blk_alloc ?_ _)); exact BK136.out) Try.underlying76 rfl (by kernel_rfl)) rfl ?_
         exact ⟨by first | rfl | (simp [errW_none, errW_some] <;> rfl) | (simp [*, errW_none, errW_some] <;> rfl), by repeat (first | (with_reducible first | exact HB.out | apply below_alloc | apply pw_below_drewN | apply below_drew1 | refine below_set ?_ GE136.out) | exact HB.out)⟩

end Go.Proofs.Ytlffpaploefljaa.P
