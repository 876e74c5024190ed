/- ShrinkLeast holds: the least block is no longer than any kind, at most five bytes longer than the text, and a text of one byte over and over is a few bytes; at every list of bytes, every byte and every int. No condition. -/
import Derived.Test.YtlffpaploefljaaShrinkW
import Derived.Test.YtlffpaploefljaaPx1
import Derived.Test.YtlffpaploefljaaPx104
namespace Go.Proofs.Ytlffpaploefljaa.Pure
open Go.RowKit Go.Proofs.Ytlffpaploefljaa.P Go.Proofs.Ytlffpaploefljaa.Glue Go.Proofs.YtlffpaploefljaaW.PrintWords Go.Proofs.YtlffpaploefljaaW.PrintLast Go.Proofs.YtlffpaploefljaaW.PrintMore
open WP (Row Bytes at_ val wN wX Wrote)
open Go.Proofs.Ytlffpaploefljaa.Tok (onesT ones_toks0)
set_option linter.unusedVariables false
set_option linter.unusedSimpArgs false
theorem fixL_nine : ∀ x ∈ fixL, x ≤ 9 := by decide +kernel
theorem codeL_nine (j : Nat) : (codeI fixL j).2 ≤ 9 := by
  unfold codeI
  simp only
  by_cases h : j < fixL.length
  · have := fixL_nine _ (getD_mem h); omega
  · rw [List.getD_eq_getElem?_getD, List.getElem?_eq_none (by omega)]; simp
theorem codeD_five (j : Nat) : (codeI fixD j).2 ≤ 5 := by
  unfold codeI
  simp only
  have : ∀ x ∈ fixD, x ≤ 5 := fun x hx => by rw [List.eq_of_mem_replicate hx]; decide
  by_cases h : j < fixD.length
  · have := this _ (getD_mem h); omega
  · rw [List.getD_eq_getElem?_getD, List.getElem?_eq_none (by omega)]; simp
theorem len258 : lenOf 258 = (285, 0, 0) := by decide +kernel
theorem dist1 : distOf 1 = (0, 0, 0) := by decide +kernel
theorem code285 : (codeI fixL 285).2 = 8 := by unfold codeI; simp only; decide +kernel
theorem lit_bits (c : Int) : wN (tokI fixL fixD ⟨c, 0, 0⟩) ≤ 9 := by
  unfold tokI
  rw [if_pos rfl]
  simp only [wN]
  have := codeL_nine c.toNat
  omega
theorem piece_bits (n : Nat) (h : 3 ≤ n) (h2 : n ≤ 258) : wN (tokI fixL fixD ⟨0, (n : Int), 1⟩) ≤ 19 ∧ (n = 258 → wN (tokI fixL fixD ⟨0, (n : Int), 1⟩) ≤ 13) := by
  unfold tokI
  rw [if_neg (by simp only; omega)]
  simp only [wN, dist1]
  have h5 := ((lenOf_is (n := (n : Int)) (by omega) (by omega)).1).le
  have a := codeL_nine (lenOf (n : Int)).1
  have b := codeD_five 0
  refine ⟨by omega, fun e => ?_⟩
  subst e
  rw [show ((258 : Nat) : Int) = 258 from rfl, len258]
  simp only
  rw [code285]
  omega
theorem ones_small (c : Int) : ∀ f left, left < 3 → wN ((onesT c f left).flatMap (tokI fixL fixD)) ≤ 9 * left
  | 0, left, _ => by simp [onesT, wN]
  | f + 1, left, h => by
    rw [onesT, if_neg (by omega)]
    split
    · rw [List.flatMap_cons, WP.wN_append]
      have := ones_small c f (left - 1) (by omega)
      have := lit_bits c
      omega
    · simp [wN]
theorem ones_bits (c : Int) : ∀ f left, left ≤ f → wN ((onesT c f left).flatMap (tokI fixL fixD)) ≤ 13 * (left / 258) + 30
  | 0, left, _ => by simp [onesT, wN]
  | f + 1, left, h => by
    by_cases h3 : 3 ≤ left
    · rw [onesT, if_pos h3, List.flatMap_cons, WP.wN_append]
      have p := piece_bits (min left 258) (by omega) (by omega)
      by_cases h258 : 258 ≤ left
      · have := ones_bits c f (left - min left 258) (by omega)
        have := p.2 (by omega)
        rw [Nat.min_eq_right h258] at *
        omega
      · have e : left - min left 258 = 0 := by omega
        have := ones_small c f (left - min left 258) (by omega)
        have := p.1
        omega
    · have := ones_small c (f + 1) left (by omega)
      omega
theorem ones_known (c : Int) (n : Nat) : wN (knownI (T (List.replicate n c))) ≤ 51 + 13 * (n / 258) := by
  unfold knownI bodyI
  rw [WP.wN_append, WP.wN_append]
  have h256 := codeL_nine 256
  have key : wN ((T (List.replicate n c)).flatMap (tokI fixL fixD)) ≤ 39 + 13 * (n / 258) := by
    unfold T
    rw [List.length_replicate]
    by_cases hn : 0 < n
    · rw [ones_toks0 c n hn, List.flatMap_cons, WP.wN_append]
      have a := lit_bits c
      have b := ones_bits c (n - 1) (n - 1) (by omega)
      have d : (n - 1) / 258 ≤ n / 258 := Nat.div_le_div_right (by omega)
      omega
    · obtain rfl : n = 0 := by omega
      simp [toks, wN]
  simp only [wN]
  omega
theorem ones_loop (c : Int) (hc : 0 ≤ c ∧ c < 256) (n : Nat) (hn : n < 1200) : ∀ (d i k : Nat), i + d = n → d < k → wherrylaw06_ShrinkLeast.l0 k c (n : Int) (List.replicate i c) (i : Int) = some true := by
  intro d
  induction d with
  | zero =>
    intro i k hi hk
    obtain ⟨k, rfl⟩ : ∃ m, k = m + 1 := ⟨k - 1, by omega⟩
    obtain rfl : i = n := by omega
    have hb : Bytes (List.replicate i c) := fun x hx => by rw [List.eq_of_mem_replicate hx]; exact hc
    obtain ⟨m⟩ := made_all (List.replicate i c) hb (by rw [List.length_replicate]; omega)
    obtain ⟨it, wl⟩ := m.wleast
    have h1 := (least_is m).2.2.1
    have h2 := ones_known c i
    have h3 := m.wkn.2
    have h4 := wl.len
    rw [wherrylaw06_ShrinkLeast.l0, if_neg (by omega), shrink_f hb (by rw [List.length_replicate]; omega) m, Option.bind_some, if_pos rfl]
    simp only
    rw [show (258 : Int) = ((258 : Nat) : Int) from rfl, tdiv_nat, wrap64_in (a := ((i / 258 : Nat) : Int)) (by omega) (by omega), wrap64_in (a := ((i / 258 : Nat) : Int) + 1) (by omega) (by omega), wrap64_in (a := 2 * (((i / 258 : Nat) : Int) + 1)) (by omega) (by omega), wrap64_in (by omega) (by omega), if_pos (by omega)]
    rfl
  | succ d ih =>
    intro i k hi hk
    obtain ⟨k, rfl⟩ : ∃ m, k = m + 1 := ⟨k - 1, by omega⟩
    rw [wherrylaw06_ShrinkLeast.l0, if_pos (by omega), if_pos (by rw [List.length_replicate]; omega), ← List.replicate_succ', wrap64_in (by omega) (by omega), show (i : Int) + 1 = ((i + 1 : Nat) : Int) from by omega]
    exact ih (i + 1) k (by omega) (by omega)
theorem ShrinkLeast : wherrylaw06_ShrinkLeast.Pure := by
  intro b c n hm h8 hw hc hn
  by_cases hl : b.length ≤ 1200
  rotate_left
  · refine ⟨0, ?_⟩
    unfold wherrylaw06_ShrinkLeast.f
    rw [if_pos (by omega)]
  refine ⟨1300, ?_⟩
  have hb : Bytes b := bytes_of hw
  obtain ⟨m⟩ := made_all b hb (by omega)
  obtain ⟨it, wl⟩ := m.wleast
  obtain ⟨_, q1, q2, q3⟩ := least_is m
  have l1 := m.wst.len
  have l2 := m.wkn.len
  have l3 := m.wdy.len
  have l4 := wl.len
  have l5 := m.wst.2
  rw [plainI_N] at l5
  unfold wherrylaw06_ShrinkLeast.f
  rw [if_neg (by omega), shrink_f hb (by omega) m, Option.bind_some, stored_f (by omega) m, Option.bind_some, fixed_f hb (by omega) m, Option.bind_some, dynamic_f hb (by omega) m, Option.bind_some]
  simp only [if_true]
  rw [wrap64_in (by omega) (by omega), if_pos (by omega), if_neg (by omega), if_neg (by omega), decide_eq_false (by omega)]
  obtain ⟨n', hn', e⟩ := tmod_u64 n 1200 (by omega) (by omega)
  rw [show (1300 : Nat) = 1299 + 1 from rfl, wherrylaw06_ShrinkLeast.j0, if_neg (by decide), e]
  exact ones_loop c (wf_u8 hc) n' (by omega) n' 0 1299 (by omega) (by omega)
end Go.Proofs.Ytlffpaploefljaa.Pure
