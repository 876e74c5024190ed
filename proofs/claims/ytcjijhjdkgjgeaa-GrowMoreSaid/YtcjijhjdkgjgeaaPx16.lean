-- Written by a program of this session out of the translation. Lean checks it.
import Derived.Test.YtcjijhjdkgjgeaaPx0
import Derived.Test.YtcjijhjdkgjgeaaPx8
import Derived.Test.YtcjijhjdkgjgeaaPx14
import Derived.Test.YtcjijhjdkgjgeaaPx15
namespace Go.Proofs.Ytcjijhjdkgjgeaa.P
open Go.RowKit Go.Proofs.YtcjijhjdkgjgeaaW.PrintWords Go.Proofs.YtcjijhjdkgjgeaaW.PrintLast Go.Proofs.YtcjijhjdkgjgeaaW.PrintMore
attribute [local go_sem] max2_int min2_int max_two min_two max_three min_three max_four min_four   -- for this text's walks alone
set_option linter.unusedVariables false
set_option linter.unusedSimpArgs false

-- PART
/-! ### canon_Check: function 60 (by hand) -/
/-- Are lengths right? -/
def rightB (l : List Int) : Bool := decide (l.length ≤ 300) && l.all (fun x => decide (0 ≤ x) && decide (x ≤ 15))
theorem rightB_iff (l : List Int) : rightB l = true ↔ l.length ≤ 300 ∧ ∀ x ∈ l, 0 ≤ x ∧ x ≤ 15 := by
  unfold rightB
  simp [List.all_eq_true]
theorem right_loop (l : List Int) (hl : l.length ≤ 300) : ∀ (d i k : Nat), i + d = l.length → d < k → canon_right.l0 k l (l.length : Int) (i : Int) = some ((l.drop i).all (fun x => decide (0 ≤ x) && decide (x ≤ 15))) := by
  intro d
  induction d with
  | zero =>
    intro i k hi hk
    obtain ⟨k, rfl⟩ : ∃ m, k = m + 1 := ⟨k - 1, by omega⟩
    simp only [canon_right.l0]
    rw [if_neg (by omega), List.drop_of_length_le (by omega)]
    rfl
  | succ d ih =>
    intro i k hi hk
    obtain ⟨k, rfl⟩ : ∃ m, k = m + 1 := ⟨k - 1, by omega⟩
    have hlt : i < l.length := by omega
    simp only [canon_right.l0]
    rw [if_pos (by omega), if_pos (by omega), if_pos (by omega), show wrap64 ((i : Int) + 1) = ((i + 1 : Nat) : Int) from by unfold wrap64; omega]
    have e : rd l (i : Int) = l[i] := by unfold rd; rw [Int.toNat_natCast, List.getD_eq_getElem?_getD, List.getElem?_eq_getElem hlt]; rfl
    rw [List.drop_eq_getElem_cons hlt, List.all_cons, e]
    by_cases h0 : l[i] < 0
    · rw [if_pos h0, decide_eq_false (by omega)]; rfl
    · rw [if_neg h0]
      by_cases h1 : l[i] > 15
      · rw [if_pos h1, decide_eq_true (by omega), decide_eq_false (by omega)]; rfl
      · rw [if_neg h1, ih (i + 1) k (by omega) (by omega), decide_eq_true (by omega), decide_eq_true (by omega)]; rfl
theorem right_is (l : List Int) : canon_right.f 400 l = some (rightB l) := by
  unfold canon_right.f rightB
  by_cases h : l.length ≤ 300
  · rw [if_neg (by omega), decide_eq_true h]
    have := right_loop l h l.length 0 400 (by omega) (by omega)
    simpa using this
  · rw [if_pos (by omega), decide_eq_false h]; rfl
/-- What lengths weigh; how many codes there are; how many of one bit. -/
def cW (l : List Int) : Nat := weighTo (fun n => (symsTo l l.length n).length) 15
def cA (l : List Int) : Nat := allTo (fun n => (symsTo l l.length n).length) 15
def makesB (l : List Int) : Bool := cW l == 32768 || (cA l == 0 || (cA l == 1 && (symsTo l l.length 1).length == 1))
def canon_Check.f (l0 : List Int) : Option (Int) := some (if rightB l0 then (if makesB l0 then 0 else 4) else 1)
theorem check_right0 {l : List Int} (h : canon_Check.f l = some 0) : l.length ≤ 300 ∧ ∀ x ∈ l, 0 ≤ x ∧ x ≤ 15 := by
  unfold canon_Check.f at h
  by_cases hr : rightB l = true
  · exact (rightB_iff l).1 hr
  · rw [if_neg hr] at h; simp at h
set_option maxHeartbeats 8000000 in
set_option maxRecDepth 100000 in
theorem canon_Check.calls (A0 : Option Addr) (c0 : Nat) (l0 : List Int) (r : Int) (w : World) (hr0 : Kd.C (Kd.int .i64) w A0 l0.length l0) (hc0 : l0.length ≤ c0) (h : canon_Check.f l0 = some r) :
    Calls Try.prog 60 #[.slice A0 l0.length c0] w fun e w' => e = .returned (.int .i64 r) ∧ Below w.heap.size w w' := by
  have HR := Aside0.mk hr0
  have HC := Aside0.mk hc0
  have H := Aside0.mk h
  clear hr0 hc0 h
  obtain ⟨q, hq⟩ : ∃ q, q = rightB l0 := ⟨_, rfl⟩
  have HQ := Aside0.mk hq
  clear hq
  go_enter Try.func60, Try.ntmps60
  go_wp2_with fail
  refine (canon_right.calls 400 _ _ l0 q w HR.out HC.out (by rw [HQ.out]; exact right_is l0)).mono ?_
  rintro e1 w1 ⟨rfl, hd⟩
  cases q with
  | false =>
    go_wp2_with fail
    go_ret
    have h := H.out
    unfold canon_Check.f at h
    rw [← HQ.out] at h
    simp at h
    subst h
    exact ⟨rfl, hd.below⟩
  | true =>
    obtain ⟨h1, h2⟩ := (rightB_iff l0).1 HQ.out.symm
    have HX := Aside0.mk h2
    clear h2
    go_wp2_with fail
    refine (open_book _ _ l0 w1 (Kd.C_below HR.out hd.below) HC.out HX.out (by omega)).mono ?_
    rintro e2 w2 ⟨g, rfl, hb, hbl⟩
    have HB := Aside0.mk hb
    have HL := Aside0.mk (And.intro hd hbl)
    clear hb hd hbl
    go_wp2_with fail
    refine (book_weight _ g _ _ w2 HB.out (fun n => Nat.le_trans (symsTo_len _ _ _) (by omega))).mono ?_
    rintro e3 w3 ⟨rfl, rfl⟩
    have h := H.out
    unfold canon_Check.f makesB cW cA at h
    rw [← HQ.out, if_pos rfl] at h
    injection h with h
    have H3 := Aside0.mk h
    clear h
    obtain ⟨hm1, hm2⟩ := HB.out.many 1 (by omega)
    generalize weighTo (fun n => (symsTo l0 l0.length n).length) 15 = W at *
    generalize allTo (fun n => (symsTo l0 l0.length n).length) 15 = A at *
    generalize (symsTo l0 l0.length 1).length = O at *
    by_cases b1 : W = 32768
    · subst b1
      go_wp2_with fail
      go_ret
      exact ⟨by rw [← H3.out]; rfl, below_then HL.out.1.below HL.out.1.below.size HL.out.2⟩
    · have d1 : ((W : Int) == 32768) = false := by rw [beq_eq_false_iff_ne]; omega
      by_cases b2 : A = 0
      · subst b2
        go_wp2_with fail
        go_ret
        exact ⟨by rw [← H3.out, show (W == 32768) = false from beq_eq_false_iff_ne.2 b1]; rfl, below_then HL.out.1.below HL.out.1.below.size HL.out.2⟩
      · have d2 : ((A : Int) == 0) = false := by rw [beq_eq_false_iff_ne]; omega
        by_cases b3 : A = 1
        · subst b3
          by_cases b4 : O = 1
          · subst b4
            go_wp2_with fail
            go_ret
            exact ⟨by rw [← H3.out, show (W == 32768) = false from beq_eq_false_iff_ne.2 b1]; rfl, below_then HL.out.1.below HL.out.1.below.size HL.out.2⟩
          · have d4 : ((O : Int) == 1) = false := by rw [beq_eq_false_iff_ne]; omega
            go_wp2_with fail
            go_ret
            exact ⟨by rw [← H3.out, show (W == 32768) = false from beq_eq_false_iff_ne.2 b1, show (O == 1) = false from beq_eq_false_iff_ne.2 b4]; rfl, below_then HL.out.1.below HL.out.1.below.size HL.out.2⟩
        · have d3 : ((A : Int) == 1) = false := by rw [beq_eq_false_iff_ne]; omega
          go_wp2_with fail
          go_ret
          exact ⟨by rw [← H3.out, show (W == 32768) = false from beq_eq_false_iff_ne.2 b1, show (A == 0) = false from beq_eq_false_iff_ne.2 b2, show (A == 1) = false from beq_eq_false_iff_ne.2 b3]; rfl, below_then HL.out.1.below HL.out.1.below.size HL.out.2⟩

-- PART
end Go.Proofs.Ytcjijhjdkgjgeaa.P
