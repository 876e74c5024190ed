/- GrowFar holds: a piece that reaches ahead of all that was told is none; one that does not is what stands there; at every two bytes and every two ints. No condition. -/
import Derived.Test.YtcjijhjdkgjgeaaGrowFarA
import Derived.Test.YtcjijhjdkgjgeaaPx0
import Derived.Test.YtcjijhjdkgjgeaaPx25
import Derived.Test.YtcjijhjdkgjgeaaPx66
import Derived.Test.YtcjijhjdkgjgeaaPx74
namespace Go.Proofs.Ytcjijhjdkgjgeaa.Pure
open Go.RowKit Go.Proofs.Ytcjijhjdkgjgeaa.P Go.Proofs.Ytcjijhjdkgjgeaa.Glue Go.Proofs.YtcjijhjdkgjgeaaW.PrintWords Go.Proofs.YtcjijhjdkgjgeaaW.PrintLast Go.Proofs.YtcjijhjdkgjgeaaW.PrintMore
open WP (Row Bytes at_ val wN wX Wrote)
open Go.Proofs.Ytcjijhjdkgjgeaa.Tok (copyN copyN_len)
set_option linter.unusedVariables false
set_option linter.unusedSimpArgs false

theorem wakes07f_is : wherrylaw07_wakes.f = some true := rfl
theorem far_and : ∀ a : Fin 256, Go.bits .and .u8 (a.val : Int) 127 = ((a.val % 128 : Nat) : Int) := by decide +kernel
def two (p : Nat × Nat) : S35 := ⟨(p.1 : Int), (p.2 : Int)⟩
theorem far_l2 {k d : Nat} (hk : k < 8) (hd : d ≤ 1) (y : List Int) (hy : y.length ≤ 100) : ∀ (m i K : Nat) (w : List Int), i + m = 3 + k → 2 ≤ w.length → w.length ≤ 100 → copyN m (1 + d) w = y → 200 + m < K → wherrylaw07_GrowFar.l2 K (1 + (d : Int)) (3 + (k : Int)) y 0 w (i : Int) = some true
  | 0, i, K, w, hi, h2, h100, hw, hK => by
    obtain ⟨K, rfl⟩ : ∃ m, K = m + 1 := ⟨K - 1, by omega⟩
    simp only [copyN] at hw
    subst hw
    rw [wherrylaw07_GrowFar.l2, if_neg (by omega), if_pos rfl, keepBytes_is w w (by omega) K (by omega), Option.bind_some, if_pos (decide_eq_true rfl), wakes07f_is]
    rfl
  | m + 1, i, K, w, hi, h2, h100, hw, hK => by
    obtain ⟨K, rfl⟩ : ∃ m, K = m + 1 := ⟨K - 1, by omega⟩
    simp only [copyN] at hw
    have hl : w.length + (m + 1) = y.length := by rw [← hw, copyN_len, List.length_append, List.length_singleton]; omega
    have hy' : w.length < 100 := by omega
    rw [wherrylaw07_GrowFar.l2, if_pos (by omega), wrap64_in (a := (w.length : Int) - _) (by omega) (by omega), if_pos (by omega), if_pos (by omega), if_pos (by omega), wrap64_in (by omega) (by omega), show (i : Int) + 1 = ((i + 1 : Nat) : Int) from by omega, show (w.length : Int) - (1 + (d : Int)) = ((w.length - (1 + d) : Nat) : Int) from by omega, rd_nat]
    exact far_l2 hk hd y hy m (i + 1) K _ (by omega) (by rw [List.length_append]; omega) (by rw [List.length_append, List.length_singleton]; omega) hw (by omega)
theorem far_l1 {x0 x1 k d : Nat} (h0 : x0 < 128) (h1 : x1 < 128) (hk : k < 8) (hd : d < 4) : ∀ (post pre : List (Nat × Nat)) (B : List Int) (K : Nat), pre ++ post = farI x0 x1 k d → Wrote B pre → 400 + post.length < K →
    wherrylaw07_GrowFar.l1 K (1 + (d : Int)) (3 + (k : Int)) ((farI x0 x1 k d).map two) [(x0 : Int), (x1 : Int)] (pre.length : Int) B ((wN pre : Nat) : Int) = some true
  | [], pre, B, K, he, hw, hK => by
    obtain ⟨K, rfl⟩ : ∃ m, K = m + 1 := ⟨K - 1, by omega⟩
    rw [List.append_nil] at he
    rw [he] at hw
    rw [wherrylaw07_GrowFar.l1, if_neg (by rw [he, List.length_map]; omega), far_grow hw h0 h1 hk hd, Option.bind_some]
    by_cases hd1 : d ≤ 1
    · rw [if_pos hd1, if_neg (by omega)]
      simp only
      unfold wherrykeep_Twin.f
      rw [if_pos (by simp), Option.bind_some, List.nil_append]
      exact far_l2 hk hd1 _ (by rw [copyN_len]; simp only [List.length_cons, List.length_nil]; omega) (3 + k) 0 K _ (by omega) (by simp) (by simp) rfl (by simp only [List.length_nil] at hK; omega)
    · rw [if_neg hd1, if_pos (by omega)]
      simp only
      rw [if_pos trivial, if_pos (by rfl), wakes07f_is]
      rfl
  | p :: post, pre, B, K, he, hw, hK => by
    obtain ⟨K, rfl⟩ : ∃ m, K = m + 1 := ⟨K - 1, by omega⟩
    have hm : p ∈ farI x0 x1 k d := by rw [← he]; simp
    have hlt := farI_lt x0 x1 k d p hm
    have h24 : p.2 ≤ 24 := by
      simp only [farI, List.mem_cons, List.not_mem_nil, or_false] at hm
      rcases hm with rfl | rfl | rfl | rfl | rfl | rfl | rfl <;> simp only [] <;> omega
    have hN : wN pre ≤ 38 := by
      have := farI_N x0 x1 k d
      rw [← he, WP.wN_append] at this
      omega
    have hlen : pre.length < (farI x0 x1 k d).length := by rw [← he, List.length_append, List.length_cons]; omega
    have hlen7 : (farI x0 x1 k d).length = 7 := rfl
    have hrd : rd_T35 ((farI x0 x1 k d).map two) (pre.length : Int) = two p := by
      unfold rd_T35
      rw [Int.toNat_natCast, ← he, List.map_append, List.map_cons, List.getD_eq_getElem?_getD, List.getElem?_append_right (by rw [List.length_map]; exact Nat.le_refl _), List.length_map, Nat.sub_self]
      rfl
    obtain ⟨B', e, hR⟩ := put_row (B := B) (N := wN pre) (X := wX pre) hw h24 hlt (by omega)
    have hw' : Wrote B' (pre ++ [p]) := by
      unfold Wrote
      have e1 := WP.wN_snoc pre p.1 p.2
      have e2 := WP.wX_snoc pre p.1 p.2
      rw [Nat.mod_eq_of_lt hlt] at e2
      rw [show pre ++ [p] = pre ++ [(p.1, p.2)] from rfl, e1, e2]
      exact hR
    rw [wherrylaw07_GrowFar.l1, if_pos (by rw [List.length_map]; omega), if_pos (by omega), hrd]
    unfold two
    simp only
    rw [e, Option.bind_some]
    simp only
    rw [if_pos trivial, wrap64_in (by omega) (by omega), show (pre.length : Int) + 1 = ((pre ++ [p]).length : Int) from by rw [List.length_append, List.length_singleton]; omega, show wN pre + p.2 = wN (pre ++ [p]) from by rw [WP.wN_append]; rfl]
    exact far_l1 h0 h1 hk hd post (pre ++ [p]) B' K (by rw [List.append_assoc]; exact he) hw' (by simp only [List.length_cons] at hK; omega)
theorem GrowFar : wherrylaw07_GrowFar.Pure := by
  intro a0 a1 a2 a3 w0 w1 _ _
  refine ⟨1000, ?_⟩
  have byte : ∀ a : Int, (Lit.int .u8 a).wf = true → ∃ x : Nat, x < 128 ∧ Go.bits .and .u8 a 127 = (x : Int) := by
    intro a ha
    have := bytes_of (l := [a]) (fun x hx => by rw [List.mem_singleton.1 hx]; exact ha) a List.mem_cons_self
    obtain ⟨n, rfl⟩ := Int.eq_ofNat_of_zero_le this.1
    exact ⟨n % 128, Nat.mod_lt _ (by decide), far_and ⟨n, by omega⟩⟩
  obtain ⟨x0, h0, e0⟩ := byte a0 w0
  obtain ⟨x1, h1, e1⟩ := byte a1 w1
  obtain ⟨d, hd, ed⟩ := tmod_u64 a2 4 (by decide) (by decide)
  obtain ⟨k, hk, ek⟩ := tmod_u64 a3 8 (by decide) (by decide)
  unfold wherrylaw07_GrowFar.f
  rw [e0, e1, ed, ek, wrap64_in (a := 1 + (d : Int)) (by omega) (by omega), wrap64_in (a := 3 + (k : Int)) (by omega) (by omega)]
  have turn : ∀ (v n K : Nat), n ≤ 24 → v < 2 ^ n → 30 ≤ K → bits_Turn.f K (v : Int) (n : Int) = some ((WP.rev n v : Int), 0) := fun v n K a b c => turn_is v n K a b c
  rw [show (1000 : Nat) = 999 + 1 from rfl, wherrylaw07_GrowFar.l0, if_pos (by simp only [List.length_cons, List.length_nil]; omega), if_pos (by decide)]
  rw [show rd [(x0 : Int), (x1 : Int)] 0 = (x0 : Int) from rfl, wrap64_in (a := (x0 : Int)) (by omega) (by omega), wrap64_in (by omega) (by omega), show (48 : Int) + (x0 : Int) = ((48 + x0 : Nat) : Int) from by omega, show (8 : Int) = ((8 : Nat) : Int) from rfl, turn (48 + x0) 8 999 (by decide) (by omega) (by decide), Option.bind_some, if_pos (by decide), wrap64_in (a := 0 + 1) (by decide) (by decide)]
  simp only
  rw [show (999 : Nat) = 998 + 1 from rfl, wherrylaw07_GrowFar.l0, if_pos (by simp only [List.length_cons, List.length_nil]; omega), if_pos (by decide)]
  rw [show rd [(x0 : Int), (x1 : Int)] (0 + 1) = (x1 : Int) from rfl, wrap64_in (a := (x1 : Int)) (by omega) (by omega), wrap64_in (by omega) (by omega), show (48 : Int) + (x1 : Int) = ((48 + x1 : Nat) : Int) from by omega, show (8 : Int) = ((8 : Nat) : Int) from rfl, turn (48 + x1) 8 998 (by decide) (by omega) (by decide), Option.bind_some, if_pos (by simp), wrap64_in (a := 0 + 1 + 1) (by decide) (by decide)]
  simp only
  rw [show (998 : Nat) = 997 + 1 from rfl, wherrylaw07_GrowFar.l0, if_neg (by simp only [List.length_cons, List.length_nil]; omega)]
  rw [wrap64_in (a := 3 + (k : Int) - 3) (by omega) (by omega), wrap64_in (by omega) (by omega), show 3 + (k : Int) - 3 + 1 = ((k + 1 : Nat) : Int) from by omega, show (7 : Int) = ((7 : Nat) : Int) from rfl, turn (k + 1) 7 997 (by decide) (by omega) (by decide), Option.bind_some]
  rw [wrap64_in (a := 1 + (d : Int) - 1) (by omega) (by omega), show 1 + (d : Int) - 1 = (d : Int) from by omega, show (5 : Int) = ((5 : Nat) : Int) from rfl, turn d 5 997 (by decide) (by omega) (by decide), Option.bind_some, Option.bind_some, if_pos (by simp)]
  exact far_l1 h0 h1 (by omega) (by omega) (farI x0 x1 k d) [] [] 997 rfl Wrote.nil (show 400 + 7 < 997 by decide)
end Go.Proofs.Ytcjijhjdkgjgeaa.Pure
