/- A text twice over: its second half's pieces; used by the claims of this seat. -/
import Derived.Test.YtlffpaploefljaaTok
import Derived.Test.YtlffpaploefljaaPx1
namespace Go.Proofs.Ytlffpaploefljaa.Tok
open Go.RowKit Go.Proofs.Ytlffpaploefljaa.P Go.Proofs.YtlffpaploefljaaW.PrintWords Go.Proofs.YtlffpaploefljaaW.PrintLast Go.Proofs.YtlffpaploefljaaW.PrintMore
set_option linter.unusedVariables false
set_option linter.unusedSimpArgs false
theorem twice_left (b : List Int) (j : Nat) (h : j < b.length) : (b ++ b).getD j 0 = b.getD j 0 := by
  simp only [List.getD_eq_getElem?_getD]
  rw [List.getElem?_append_left h]
theorem twice_right (b : List Int) (j : Nat) : (b ++ b).getD (b.length + j) 0 = b.getD j 0 := by
  simp only [List.getD_eq_getElem?_getD]
  rw [List.getElem?_append_right (by omega), Nat.add_sub_cancel_left]
theorem twice_len (b : List Int) : (b ++ b).length = b.length + b.length := List.length_append
theorem twice_back (b : List Int) (i : Nat) (h1 : b.length ≤ i) (h2 : i < b.length + b.length) : min (b.length + b.length - i) 258 ≤ com (b ++ b) (i - b.length) i := by
  refine com_ge _ _ _ _ (by omega) (fun j hj => ⟨by rw [twice_len]; omega, ?_⟩)
  rw [twice_left b _ (by omega), show i + j = b.length + (i - b.length + j) from by omega, twice_right]
theorem twice_tail (b : List Int) (h3 : 3 ≤ b.length) (h4 : b.length ≤ 2048) : ∀ f i, b.length ≤ i → i ≤ b.length + b.length → (toks (b ++ b) f i).length ≤ if b.length + b.length - i < 3 then b.length + b.length - i else (b.length + b.length - i) / 258 + 2
  | 0, i, _, _ => by simp [toks]
  | f + 1, i, h1, h2 => by
    rw [toks]
    by_cases hi : i < b.length + b.length
    · rw [if_pos (by rw [twice_len]; exact hi)]
      have hb := bestL_is (b ++ b) i (by rw [twice_len]; exact hi)
      have hm := twice_back b i h1 hi
      generalize (bestL (noted (b ++ b) i) (b ++ b) i).1 = n at *
      generalize (bestL (noted (b ++ b) i) (b ++ b) i).2 = d at *
      obtain ⟨q1, q2⟩ := hb
      rw [twice_len] at q1
      have q2 := q2 b.length (by omega) h1 h4
      by_cases h0 : n = 0
      · rw [if_pos h0, List.length_cons]
        have ih := twice_tail b h3 h4 f (i + 1) (by omega) (by omega)
        have : b.length + b.length - i < 3 := by omega
        rw [if_pos this]
        rw [if_pos (by omega)] at ih
        omega
      · rw [if_neg h0, List.length_cons]
        have ih := twice_tail b h3 h4 f (i + n) (by omega) (by omega)
        rw [if_neg (by omega)]
        by_cases hr : b.length + b.length - (i + n) < 3
        · rw [if_pos hr] at ih
          by_cases h258 : 258 ≤ b.length + b.length - i
          · have : 1 ≤ (b.length + b.length - i) / 258 := by omega
            omega
          · omega
        · rw [if_neg hr] at ih
          have : n = 258 := by omega
          omega
    · rw [if_neg (by rw [twice_len]; exact hi)]
      simp
theorem twice_com_le (b : List Int) (p i : Nat) (hp : p < i) (hi : i < b.length) : com b p i ≤ com (b ++ b) p i := by
  refine com_ge _ _ _ _ (com_le b p i) (fun j hj => ?_)
  obtain ⟨h1, h2⟩ := com_same b p i hj
  exact ⟨by rw [twice_len]; omega, by rw [twice_left b _ (by omega), twice_left b _ h1]; exact h2⟩
theorem twice_com_eq (b : List Int) (p i : Nat) (hp : p < i) (h : i + com (b ++ b) p i ≤ b.length) (hi : i < b.length) : com b p i = com (b ++ b) p i := by
  refine Nat.le_antisymm (twice_com_le b p i hp hi) (com_ge _ _ _ _ (com_le _ p i) (fun j hj => ?_))
  have h2 := (com_same (b ++ b) p i hj).2
  rw [twice_left b _ (by omega), twice_left b _ (by omega)] at h2
  exact ⟨by omega, h2⟩
theorem twice_best (b : List Int) (i n d : Nat) (hi : i < b.length) (hn : i + n ≤ b.length) (h : IsBest (b ++ b) i n d) : IsBest b i n d := by
  obtain ⟨h1, h2⟩ := h
  refine ⟨?_, fun o a c e => ?_⟩
  · rcases h1 with h1 | ⟨a1, a2, a3, a4, a5, a6, a7⟩
    · exact Or.inl h1
    · exact Or.inr ⟨a1, a2, a3, a4, a5, hn, by rw [twice_com_eq b (i - d) i (by omega) (by omega) hi]; exact a7⟩
  · have hle := twice_com_le b (i - o) i (by omega) hi
    rcases h2 o a c e with h | h | ⟨h, h'⟩
    · left; omega
    · right; left; omega
    · right; right
      exact ⟨by rw [twice_com_eq b (i - o) i (by omega) (by omega) hi]; exact h, h'⟩
end Go.Proofs.Ytlffpaploefljaa.Tok
