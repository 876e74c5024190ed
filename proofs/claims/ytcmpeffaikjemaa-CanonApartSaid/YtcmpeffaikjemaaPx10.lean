-- Written by a program of this session out of the translation. Lean checks it.
import Derived.Test.YtcmpeffaikjemaaPx0
import Derived.Test.YtcmpeffaikjemaaPx2
import Derived.Test.YtcmpeffaikjemaaPx5
import Derived.Test.YtcmpeffaikjemaaPx9
namespace Go.Proofs.Ytcmpeffaikjemaa.P
open Go.RowKit Go.Proofs.YtcmpeffaikjemaaW.PrintWords Go.Proofs.YtcmpeffaikjemaaW.PrintLast Go.Proofs.YtcmpeffaikjemaaW.PrintMore
attribute [local go_sem] max2_int min2_int max_two min_two max_three min_three max_four min_four   -- for this text's walks alone
set_option linter.unusedVariables false
set_option linter.unusedSimpArgs false

-- PART
/-! ### canon_Read: function 13 (by hand) -/
def canon_Read.f (l0 : List Int) (l1 : List Int) (a2 : Int) : Option (Int × Int × Int) :=
  (canon_Check.f l0).bind fun e => if e = 0 then (if a2 < 0 ∨ a2 > wrap64 (8 * (l1.length : Int)) then some (0, 0, 1) else
    (nextF (fun n => (openF l0 n : Int)) (symsTo l0 l0.length) l1 15 1 0 a2).bind fun r => if r.2.2 = true then some (r.1, r.2.1, 0) else some (0, 0, 3)) else some (0, 0, e)
set_option maxHeartbeats 8000000 in
set_option maxRecDepth 100000 in
theorem canon_Read.calls (A0 : Option Addr) (c0 : Nat) (l0 : List Int) (A1 : Option Addr) (c1 : Nat) (l1 : List Int) (a2 : Int) (r1 : Int) (r2 : Int) (r3 : Int) (w : World) (hr0 : Kd.C (Kd.int .i64) w A0 l0.length l0) (hc0 : l0.length ≤ c0) (hr1 : Kd.C (Kd.int .u8) w A1 l1.length l1) (hc1 : l1.length ≤ c1) (h : canon_Read.f l0 l1 a2 = some (r1, r2, r3)) :
    Calls Try.prog 13 #[.slice A0 l0.length c0, .slice A1 l1.length c1, .int .i64 a2] w fun e w' => e = .returned (.tuple #[.int .i64 r1, .int .i64 r2, .int .i64 r3]) ∧ Below w.heap.size w w' := by
  have HR := Aside0.mk hr0
  have HC := Aside0.mk hc0
  have HR1 := Aside0.mk hr1
  have HC1 := Aside0.mk hc1
  unfold canon_Read.f at h
  obtain ⟨q, hq, h⟩ := Option.bind_eq_some_iff.1 h
  have HQ := Aside0.mk hq
  have H := Aside0.mk h
  clear hr0 hc0 h hq hr1 hc1
  go_enter Try.func13, Try.ntmps13
  go_wp2_with fail
  refine (canon_Check.calls _ _ l0 q w HR.out HC.out HQ.out).mono ?_
  rintro e1 w1 ⟨rfl, hd⟩
  have HD := Aside0.mk hd
  clear hd
  by_cases hq0 : q = 0
  · subst hq0
    have h := H.out
    rw [if_pos rfl] at h
    have H2 := Aside0.mk h
    clear h H
    by_cases ha : a2 < 0
    · have d0 : decide (a2 < 0) = true := decide_eq_true ha
      go_wp2_with fail
      go_ret3
      have h := H2.out
      rw [if_pos (.inl ha)] at h
      simp only [Option.some.injEq, Prod.mk.injEq] at h
      obtain ⟨rfl, rfl, rfl⟩ := h
      exact ⟨rfl, HD.out⟩
    · have d0 : decide (a2 < 0) = false := decide_eq_false ha
      obtain ⟨z, hz⟩ : ∃ z, wrap64 (8 * (l1.length : Int)) = z := ⟨_, rfl⟩
      have h := H2.out
      rw [hz] at h
      have H3 := Aside0.mk h
      clear h H2
      by_cases hb : a2 > z
      · have d1 : decide (z < a2) = true := decide_eq_true hb
        go_wp2_with fail
        go_ret3
        have h := H3.out
        rw [if_pos (.inr hb)] at h
        simp only [Option.some.injEq, Prod.mk.injEq] at h
        obtain ⟨rfl, rfl, rfl⟩ := h
        exact ⟨rfl, HD.out⟩
      · have d1 : decide (z < a2) = false := decide_eq_false hb
        have h := H3.out
        rw [if_neg (by omega)] at h
        obtain ⟨⟨s, p, is⟩, hn, h⟩ := Option.bind_eq_some_iff.1 h
        have HN := Aside0.mk hn
        have H4 := Aside0.mk h
        obtain ⟨hx1, hx2⟩ := check_right0 HQ.out
        have HX := Aside0.mk hx2
        clear h hn H3 hx2
        go_wp2_with fail
        refine (open_book _ _ l0 w1 (Kd.C_below HR.out HD.out) HC.out HX.out (by omega)).mono ?_
        rintro e2 w2 ⟨g, rfl, hb2, hbl⟩
        have HB := Aside0.mk hb2
        have HL := Aside0.mk (below_then HD.out HD.out.size hbl)
        clear hb2 hbl
        go_wp2_with fail
        refine (book_next _ g _ _ A1 c1 l1 a2 s p is w2 HB.out (Kd.C_below HR1.out HL.out) HC1.out HN.out).mono ?_
        rintro e3 w3 ⟨rfl, hd3⟩
        have HL3 := Aside0.mk (below_then HL.out HL.out.size hd3.below)
        clear hd3
        cases is with
        | true =>
          go_wp2_with fail
          go_ret3
          have h := H4.out
          simp at h
          obtain ⟨rfl, rfl, rfl⟩ := h
          exact ⟨rfl, HL3.out⟩
        | false =>
          go_wp2_with fail
          go_ret3
          have h := H4.out
          simp at h
          obtain ⟨rfl, rfl, rfl⟩ := h
          exact ⟨rfl, HL3.out⟩
  · have h := H.out
    rw [if_neg hq0] at h
    simp only [Option.some.injEq, Prod.mk.injEq] at h
    obtain ⟨rfl, rfl, rfl⟩ := h
    have d0 : (q != 0) = true := bne_iff_ne.2 hq0
    go_wp2_with fail
    go_ret3
    exact ⟨rfl, HD.out⟩

-- PART
end Go.Proofs.Ytcmpeffaikjemaa.P
