-- Written by a program of this session out of the translation. Lean checks it.
import Derived.Test.YtcmpeffaikjemaaPx0
import Derived.Test.YtcmpeffaikjemaaPx2
import Derived.Test.YtcmpeffaikjemaaPx3
import Derived.Test.YtcmpeffaikjemaaPx4
import Derived.Test.YtcmpeffaikjemaaPx5
namespace Go.Proofs.Ytcmpeffaikjemaa.P
open Go.RowKit Go.Proofs.YtcmpeffaikjemaaW.PrintWords Go.Proofs.YtcmpeffaikjemaaW.PrintLast Go.Proofs.YtcmpeffaikjemaaW.PrintMore
attribute [local go_sem] max2_int min2_int max_two min_two max_three min_three max_four min_four   -- for this text's walks alone
set_option linter.unusedVariables false
set_option linter.unusedSimpArgs false

-- PART
/-! ### canon_Weigh: function 17 (by hand) -/
def canon_Weigh.f (l0 : List Int) : Option (Int) := some (if rightB l0 then (cW l0 : Int) else 0)
set_option maxHeartbeats 8000000 in
set_option maxRecDepth 100000 in
theorem canon_Weigh.calls (A0 : Option Addr) (c0 : Nat) (l0 : List Int) (r : Int) (w : World) (hr0 : Kd.C (Kd.int .i64) w A0 l0.length l0) (hc0 : l0.length ≤ c0) (h : canon_Weigh.f l0 = some r) :
    Calls Try.prog 17 #[.slice A0 l0.length c0] w fun e w' => e = .returned (.int .i64 r) ∧ Below w.heap.size w w' := by
  have HR := Aside0.mk hr0
  have HC := Aside0.mk hc0
  have H := Aside0.mk h
  clear hr0 hc0 h
  obtain ⟨q, hq⟩ : ∃ q, q = rightB l0 := ⟨_, rfl⟩
  have HQ := Aside0.mk hq
  clear hq
  go_enter Try.func17, Try.ntmps17
  go_wp2_with fail
  refine (canon_right.calls 400 _ _ l0 q w HR.out HC.out (by rw [HQ.out]; exact right_is l0)).mono ?_
  rintro e1 w1 ⟨rfl, hd⟩
  cases q with
  | false =>
    go_wp2_with fail
    go_ret
    have h := H.out
    unfold canon_Weigh.f at h
    rw [← HQ.out] at h
    simp at h
    subst h
    exact ⟨rfl, hd.below⟩
  | true =>
    obtain ⟨h1, h2⟩ := (rightB_iff l0).1 HQ.out.symm
    have HX := Aside0.mk h2
    clear h2
    go_wp2_with fail
    refine (open_book _ _ l0 w1 (Kd.C_below HR.out hd.below) HC.out HX.out (by omega)).mono ?_
    rintro e2 w2 ⟨g, rfl, hb, hbl⟩
    have HB := Aside0.mk hb
    have HL := Aside0.mk (And.intro hd hbl)
    clear hb hd hbl
    go_wp2_with fail
    refine (book_weight _ g _ _ w2 HB.out (fun n => Nat.le_trans (symsTo_len _ _ _) (by omega))).mono ?_
    rintro e3 w3 ⟨rfl, rfl⟩
    go_wp2_with fail
    go_ret
    have h := H.out
    unfold canon_Weigh.f cW at h
    rw [← HQ.out, if_pos rfl] at h
    injection h with h
    subst h
    exact ⟨rfl, below_then HL.out.1.below HL.out.1.below.size HL.out.2⟩

-- PART
end Go.Proofs.Ytcmpeffaikjemaa.P
