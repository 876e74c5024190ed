/- A fixed block of a text twice over; used by the claims of this seat. -/
import Derived.Test.YtlffpaploefljaaInjW
import Derived.Test.YtlffpaploefljaaTwiceTok
import Derived.Test.YtlffpaploefljaaPx0
import Derived.Test.YtlffpaploefljaaPx1
namespace Go.Proofs.Ytlffpaploefljaa.Glue
open Go.RowKit Go.Proofs.Ytlffpaploefljaa.P Go.Proofs.YtlffpaploefljaaW.PrintWords Go.Proofs.YtlffpaploefljaaW.PrintLast Go.Proofs.YtlffpaploefljaaW.PrintMore
open WP (Row Bytes at_ val wN wX Wrote)
open Go.Proofs.Ytlffpaploefljaa.Tok
set_option linter.unusedVariables false
set_option linter.unusedSimpArgs false
/-! ### a fixed block of a text twice over -/
theorem fixL_le : ∀ j : Fin 288, fixL.getD j.val 0 ≤ 9 := by decide +kernel
theorem fixD_le : ∀ j : Fin 32, fixD.getD j.val 0 ≤ 5 := by decide +kernel
theorem codeL_le {j : Nat} (h : Has fixL j) : (codeI fixL j).2 ≤ 9 := by
  have h1 := h.1
  rw [fixL_len] at h1
  have := fixL_le ⟨j, h1⟩
  unfold codeI
  simp only at this ⊢
  omega
theorem codeD_le {j : Nat} (h : Has fixD j) : (codeI fixD j).2 ≤ 5 := by
  have h1 := h.1
  rw [fixD_len] at h1
  have := fixD_le ⟨j, h1⟩
  unfold codeI
  simp only at this ⊢
  omega
theorem tokI_size {t : S53} (h : Fine t) : wN (tokI fixL fixD t) ≤ 11 * sizeT t ∧ wN (tokI fixL fixD t) ≤ 32 := by
  have hh := fix_toks h
  unfold TokHas at hh
  unfold tokI sizeT
  by_cases h0 : t.f1 = 0
  · rw [if_pos h0] at hh ⊢
    rw [if_pos h0]
    have := codeL_le hh
    simp only [wN]
    omega
  · rw [if_neg h0] at hh ⊢
    rw [if_neg h0]
    have hp := piece_in h h0
    have l1 := (lenOf_is hp.1 hp.2.1).1.le
    have d1 := (distOf_is hp.2.2.1 (show t.f2 ≤ 32768 by omega)).1.le
    have := codeL_le hh.1
    have := codeD_le hh.2
    simp only [wN]
    omega
def bitsT (l : List S53) : Nat := wN (l.flatMap (tokI fixL fixD))
theorem bitsT_cons (t : S53) (l : List S53) : bitsT (t :: l) = wN (tokI fixL fixD t) + bitsT l := by
  unfold bitsT
  rw [List.flatMap_cons, WP.wN_append]
theorem bitsT_many : ∀ l : List S53, (∀ t ∈ l, Fine t) → bitsT l ≤ 32 * l.length
  | [], _ => Nat.zero_le _
  | t :: l, h => by
    have h1 := (tokI_size (h t List.mem_cons_self)).2
    have h2 := bitsT_many l (fun u hu => h u (List.mem_cons_of_mem _ hu))
    rw [bitsT_cons, List.length_cons]
    omega
theorem bitsT_size : ∀ l : List S53, (∀ t ∈ l, Fine t) → bitsT l ≤ 11 * sizeL l
  | [], _ => Nat.zero_le _
  | t :: l, h => by
    have h1 := (tokI_size (h t List.mem_cons_self)).1
    have h2 := bitsT_size l (fun u hu => h u (List.mem_cons_of_mem _ hu))
    rw [bitsT_cons, sizeL]
    omega
theorem known_N (l : List S53) : wN (knownI l) = 10 + bitsT l := by
  have h2 : wN [codeI fixL 256] = 7 := by decide +kernel
  unfold knownI bodyI bitsT
  rw [WP.wN_append, WP.wN_append, h2]
  have h3 : wN [((1 : Nat), (1 : Nat)), (1, 2)] = 3 := rfl
  rw [h3]
  omega
/-- What a text twice over needs more. -/
theorem twice_bits (b : List Int) (h3 : 3 ≤ b.length) (h4 : b.length ≤ 2048) : ∀ f f' i, i ≤ b.length → b.length ≤ i + f' → (∀ t ∈ toks (b ++ b) f i, Fine t) → bitsT (toks (b ++ b) f i) ≤ bitsT (toks b f' i) + 32 * (b.length / 258 + 3)
  | 0, f', i, _, _, _ => by rw [toks]; exact Nat.zero_le _
  | f + 1, f', i, h1, h2, hF => by
    by_cases hi : i < b.length
    · obtain ⟨f', rfl⟩ : ∃ m, f' = m + 1 := ⟨f' - 1, by omega⟩
      rw [toks] at hF ⊢
      rw [toks, if_pos hi]
      rw [if_pos (by rw [twice_len]; omega)] at hF ⊢
      have hb := bestL_is (b ++ b) i (by rw [twice_len]; omega)
      have hb' := bestL_is b i hi
      have hl := bestL_len (noted (b ++ b) i) (b ++ b) i (by rw [twice_len]; omega)
      have hg : (b ++ b).getD i 0 = b.getD i 0 := twice_left b i hi
      rw [twice_len] at hl
      rw [hg] at hF ⊢
      generalize (bestL (noted (b ++ b) i) (b ++ b) i).1 = n at *
      generalize (bestL (noted (b ++ b) i) (b ++ b) i).2 = d at *
      by_cases hc : i + (if n = 0 then 1 else n) < b.length
      · obtain ⟨e1, e2⟩ := hb'.one (twice_best b i n d hi (by split at hc <;> omega) hb)
        rw [e1]
        by_cases h0 : n = 0
        · rw [if_pos h0] at hc hF
          rw [if_pos h0, if_pos h0, bitsT_cons, bitsT_cons]
          have := twice_bits b h3 h4 f f' (i + 1) (by omega) (by omega) (fun u hu => hF u (List.mem_cons_of_mem _ hu))
          omega
        · rw [if_neg h0] at hc hF
          rw [if_neg h0, if_neg h0, bitsT_cons, bitsT_cons, e2]
          have := twice_bits b h3 h4 f f' (i + n) (by omega) (by omega) (fun u hu => hF u (List.mem_cons_of_mem _ hu))
          omega
      · by_cases h0 : n = 0
        · rw [if_pos h0] at hc hF
          rw [if_pos h0]
          have hm := bitsT_many _ hF
          have := twice_tail b h3 h4 f (i + 1) (by omega) (by omega)
          have e : b.length + b.length - (i + 1) = b.length := by omega
          rw [e, if_neg (by omega)] at this
          rw [List.length_cons] at hm
          omega
        · rw [if_neg h0] at hc hF
          rw [if_neg h0]
          have hm := bitsT_many _ hF
          have := twice_tail b h3 h4 f (i + n) (by omega) (by omega)
          have hdiv : (b.length + b.length - (i + n)) / 258 ≤ b.length / 258 := Nat.div_le_div_right (by omega)
          rw [List.length_cons] at hm
          split at this <;> omega
    · obtain rfl : i = b.length := by omega
      have := twice_tail b h3 h4 (f + 1) b.length (by omega) (by omega)
      rw [Nat.add_sub_cancel, if_neg (by omega)] at this
      have hm := bitsT_many _ hF
      omega
theorem twice_known (b : List Int) (hb : Bytes b) (hl : b.length ≤ 2048) : wN (knownI (T (b ++ b))) ≤ wN (knownI (T b)) + 32 * (b.length / 258 + 3) := by
  have hb2 : Bytes (b ++ b) := hb.append hb
  have hlen := twice_len b
  obtain ⟨o1, o2, o3, o4, o5⟩ := T_ok (b ++ b) hb2 (by omega)
  rw [known_N, known_N]
  by_cases h3 : 3 ≤ b.length
  · have := twice_bits b h3 hl (b ++ b).length b.length 0 (by omega) (by omega) (fun t ht => o5 t ht)
    unfold T
    omega
  · have := bitsT_size (T (b ++ b)) o5
    omega
end Go.Proofs.Ytlffpaploefljaa.Glue
