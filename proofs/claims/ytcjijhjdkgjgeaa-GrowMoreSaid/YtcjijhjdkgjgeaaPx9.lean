-- Written by a program of this session out of the translation. Lean checks it.
import Derived.Test.YtcjijhjdkgjgeaaPx0
import Derived.Test.YtcjijhjdkgjgeaaPx3
import Derived.Test.YtcjijhjdkgjgeaaPx8
namespace Go.Proofs.Ytcjijhjdkgjgeaa.P
open Go.RowKit Go.Proofs.YtcjijhjdkgjgeaaW.PrintWords Go.Proofs.YtcjijhjdkgjgeaaW.PrintLast Go.Proofs.YtcjijhjdkgjgeaaW.PrintMore
attribute [local go_sem] max2_int min2_int max_two min_two max_three min_three max_four min_four   -- for this text's walks alone
set_option linter.unusedVariables false
set_option linter.unusedSimpArgs false

-- PART
/-! ### canon_Book_Next: function 74 (by hand) -/
/-- What Next tells from length n on: so many lengths are left, what was read, where. -/
def nextF (F : Nat → Int) (S : Nat → List Int) (b : List Int) : Nat → Nat → Int → Int → Option (Int × Int × Bool)
  | 0, _, _, _ => some (0, 0, false)
  | d + 1, n, code, at' => (bits_Get.f 40 b at' 1).bind fun r => if r.2.2 = 0 then
      (if 0 ≤ wrap64 (wrap64 (wrap64 (2 * code) + r.1) - F n) ∧ wrap64 (wrap64 (wrap64 (2 * code) + r.1) - F n) < (S n).length then
        some (rd (S n) (wrap64 (wrap64 (wrap64 (2 * code) + r.1) - F n)), r.2.1, true)
      else nextF F S b d (n + 1) (wrap64 (wrap64 (2 * code) + r.1)) r.2.1) else some (0, 0, false)
set_option maxHeartbeats 8000000 in
set_option maxRecDepth 100000 in
theorem book_next (base g : Nat) (F : Nat → Int) (S : Nat → List Int) (A1 : Option Addr) (c1 : Nat) (l1 : List Int) (a2 : Int) (r1 r2 : Int) (r3 : Bool) (w : World) (hb : BookAt w base g F S) (hr1 : Kd.C (Kd.int .u8) w A1 l1.length l1) (hc1 : l1.length ≤ c1)
    (h : nextF F S l1 15 1 0 a2 = some (r1, r2, r3)) :
    Calls Try.prog 74 #[.pointer (some ⟨g, 0, none⟩), .slice A1 l1.length c1, .int .i64 a2] w fun e w' => e = .returned (.tuple #[.int .i64 r1, .int .i64 r2, .bool r3]) ∧ Drawn0 w w' := by
  have HB := Aside0.mk hb
  have HR := Aside0.mk hr1
  have HC := Aside0.mk hc1
  have H := Aside0.mk h
  have HD := Aside0.mk (Drawn0.refl w)
  clear hb hr1 hc1 h
  go_enter Try.func74, Try.ntmps74
  go_wp2_with fail
  go_loopg [2, 9, 10] 15 (fun kq v2 v9 v10 w' => ∃ (n : Nat) (code at' : Int), v10 = .int .i64 n ∧ v9 = .int .i64 code ∧ v2 = .int .i64 at' ∧ n ≤ 16 ∧ 1 ≤ n ∧ Aside0 (kq + n = 16) ∧ Aside0 (nextF F S l1 kq n code at' = some (r1, r2, r3)) ∧ Aside0 (Drawn0 w w'))
  case atStart => exact ⟨1, 0, a2, rfl, rfl, rfl, by omega, by omega, ⟨rfl⟩, H, HD⟩
  case round =>
    clear H HD
    obtain ⟨n, code, at', rfl, rfl, rfl, hn, hn1, HG, H, HD⟩ := hrel
    by_cases hlt : n < 16
    · obtain ⟨k1, rfl⟩ : ∃ m, gk = m + 1 := ⟨gk - 1, by have := HG.out; omega⟩
      have h := H.out
      simp only [nextF] at h
      obtain ⟨⟨q1, q2, q3⟩, hq, h⟩ := Option.bind_eq_some_iff.1 h
      have HQ := Aside0.mk hq
      clear hq H
      have h15 : (n : Int) ≤ 15 := by omega
      by_cases h0 : q3 = 0
      · subst h0
        rw [if_pos rfl] at h
        have H := Aside0.mk h
        clear h
        go_wp2_with fail
        refine (bits_Get.calls 40 _ _ l1 at' 1 q1 q2 0 _ (Kd.C_below HR.out HD.out.below) HC.out HQ.out).mono ?_
        rintro e1 w1 ⟨rfl, hd⟩
        have HD1 := Aside0.mk (show Drawn0 w w1 from by
          obtain ⟨m1, e1⟩ := HD.out.out
          obtain ⟨m2, e2⟩ := hd.out
          rw [e1] at e2
          exact ⟨⟨m1 + m2, by rw [e2, World.drewN_drewN]⟩⟩)
        have HB1 := Aside0.mk (HB.out.below HD1.out.below)
        obtain ⟨hm1, hm2⟩ := HB1.out.many n (by omega)
        obtain ⟨hf1, hf2⟩ := HB1.out.first n (by omega)
        obtain ⟨As, cs, hs1, hs2, hs3⟩ := HB1.out.syms n (by omega)
        have HS := Aside0.mk (And.intro hs2 hs3)
        clear hs2 hs3 hm2 hf2 hd HD
        obtain ⟨x, hx⟩ : ∃ x, wrap64 (wrap64 (2 * code) + q1) = x := ⟨_, rfl⟩
        obtain ⟨y, hy⟩ : ∃ y, wrap64 (x - F n) = y := ⟨_, rfl⟩
        have h := H.out
        rw [hx, hy] at h
        have H2 := Aside0.mk h
        clear h H
        by_cases hy0 : 0 ≤ y
        · by_cases hy1 : y < (S n).length
          · have h := H2.out
            rw [if_pos ⟨hy0, hy1⟩] at h
            simp only [Option.some.injEq, Prod.mk.injEq] at h
            have H3 := Aside0.mk h
            clear h H2
            obtain ⟨ad, rfl, hcell⟩ := Kd.at_int HS.out.2 y hy0 hy1
            have d0 : decide (0 ≤ y) = true := decide_eq_true hy0
            have d1 : decide (y < ((S n).length : Int)) = true := decide_eq_true hy1
            go_wp2_with fail
            go_ret3
            obtain ⟨rfl, rfl, rfl⟩ := H3.out
            exact ⟨rfl, HD1.out⟩
          · have h := H2.out
            rw [if_neg (fun hh => hy1 hh.2)] at h
            have H3 := Aside0.mk h
            clear h H2
            have d0 : decide (0 ≤ y) = true := decide_eq_true hy0
            have d1 : decide (y < ((S n).length : Int)) = false := decide_eq_false hy1
            go_wp2_with fail
            go_roundg k1
            case measure => omega
            case rel => exact ⟨n + 1, x, q2, by go_num, by rw [hx], rfl, by omega, by omega, ⟨by have := HG.out; omega⟩, H3, HD1⟩
        · have h := H2.out
          rw [if_neg (fun hh => hy0 hh.1)] at h
          have H3 := Aside0.mk h
          clear h H2
          have d0 : decide (0 ≤ y) = false := decide_eq_false hy0
          go_wp2_with fail
          go_roundg k1
          case measure => omega
          case rel => exact ⟨n + 1, x, q2, by go_num, by rw [hx], rfl, by omega, by omega, ⟨by have := HG.out; omega⟩, H3, HD1⟩
      · rw [if_neg h0] at h
        have H := Aside0.mk h
        have hb0 : (q3 != 0) = true := bne_iff_ne.2 h0
        clear h h0
        go_wp2_with fail
        refine (bits_Get.calls 40 _ _ l1 at' 1 q1 q2 q3 _ (Kd.C_below HR.out HD.out.below) HC.out HQ.out).mono ?_
        rintro e1 w1 ⟨rfl, hd⟩
        have HD1 := Aside0.mk (show Drawn0 w w1 from by
          obtain ⟨m1, e1⟩ := HD.out.out
          obtain ⟨m2, e2⟩ := hd.out
          rw [e1] at e2
          exact ⟨⟨m1 + m2, by rw [e2, World.drewN_drewN]⟩⟩)
        go_wp2_with fail
        go_ret3
        have h := H.out
        simp only [Option.some.injEq, Prod.mk.injEq] at h
        obtain ⟨rfl, rfl, rfl⟩ := h
        exact ⟨rfl, HD1.out⟩
    · have hn16 : n = 16 := by omega
      subst hn16
      have hk : gk = 0 := by have := HG.out; omega
      subst hk
      have h := H.out
      simp only [nextF, Option.some.injEq, Prod.mk.injEq] at h
      have H3 := Aside0.mk h
      clear h H
      go_wp2_with fail
      go_ret3
      obtain ⟨rfl, rfl, rfl⟩ := H3.out
      exact ⟨rfl, HD.out⟩

-- PART
end Go.Proofs.Ytcjijhjdkgjgeaa.P
