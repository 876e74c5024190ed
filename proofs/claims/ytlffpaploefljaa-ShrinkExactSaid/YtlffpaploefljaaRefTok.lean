/- The reference's tokens and symbols are the package's; used by the claims of this seat. -/
import Derived.Test.YtlffpaploefljaaTok
import Derived.Test.YtlffpaploefljaaPx0
import Derived.Test.YtlffpaploefljaaPx39
import Derived.Test.YtlffpaploefljaaPx38
import Derived.Test.YtlffpaploefljaaPx23
import Derived.Test.YtlffpaploefljaaPx65
namespace Go.Proofs.Ytlffpaploefljaa.Tok
open Go.RowKit Go.Proofs.Ytlffpaploefljaa.P Go.Proofs.YtlffpaploefljaaW.PrintWords Go.Proofs.YtlffpaploefljaaW.PrintLast Go.Proofs.YtlffpaploefljaaW.PrintMore
set_option linter.unusedVariables false
set_option linter.unusedSimpArgs false
/-- One distance tried: the reference's inner loop. -/
theorem ref_inner (l : List Int) (i d n d0 K : Nat) (hd1 : 1 ≤ d) (hd : d ≤ i) (hl : l.length ≤ 1000000) (hi : i < l.length) (r : Option (Int × Int)) : ∀ (f c k : Nat), c + f = 258 →
    (∀ k', K ≤ k' → wherryref01_Best.l0 k' l (i : Int) ((if n < comF l (i - d) i f c then comF l (i - d) i f c else n : Nat) : Int) ((if n < comF l (i - d) i f c then d else d0 : Nat) : Int) ((d + 1 : Nat) : Int) = r) → K + f + 1 ≤ k →
    wherryref01_Best.l1 k l (i : Int) (n : Int) (d0 : Int) (d : Int) (c : Int) = r
  | 0, c, k, hc, H, hk => by
    obtain ⟨k, rfl⟩ : ∃ m, k = m + 1 := ⟨k - 1, by omega⟩
    have H := H k (by omega)
    rw [show comF l (i - d) i 0 c = c from rfl] at H
    rw [wherryref01_Best.l1, if_neg (by omega), wi (by omega) (by omega)]
    by_cases h : n < c
    · rw [if_pos h, if_pos h] at H
      rw [if_pos (by omega)]; exact H
    · rw [if_neg h, if_neg h] at H
      rw [if_neg (by omega)]; exact H
  | f + 1, c, k, hc, H, hk => by
    obtain ⟨k, rfl⟩ : ∃ m, k = m + 1 := ⟨k - 1, by omega⟩
    rw [wherryref01_Best.l1, if_pos (by omega), wi (by omega) (by omega)]
    have stop : comF l (i - d) i (f + 1) c = c → (if (c : Int) > (n : Int) then (wherryref01_Best.l0 k l (i : Int) (c : Int) (d : Int) (wrap64 ((d : Int) + 1))) else (wherryref01_Best.l0 k l (i : Int) (n : Int) (d0 : Int) (wrap64 ((d : Int) + 1)))) = r := by
      intro e
      have H := H k (by omega)
      rw [e] at H
      rw [wi (by omega) (by omega)]
      by_cases h : n < c
      · rw [if_pos h, if_pos h] at H
        rw [if_pos (by omega)]; exact H
      · rw [if_neg h, if_neg h] at H
        rw [if_neg (by omega)]; exact H
    by_cases h1 : i + c < l.length
    · rw [if_pos (by omega), if_pos (by omega), wi (by omega) (by omega), if_pos (by omega), if_pos (by omega), show (i : Int) + (c : Int) - (d : Int) = ((i - d + c : Nat) : Int) from by omega, show (i : Int) + (c : Int) = ((i + c : Nat) : Int) from by omega, rd_nat, rd_nat]
      by_cases h2 : l.getD (i - d + c) 0 = l.getD (i + c) 0
      · have e : comF l (i - d) i (f + 1) c = comF l (i - d) i f (c + 1) := by rw [comF, if_pos ⟨h1, h2⟩]
        rw [if_pos h2.symm, wi (by omega) (by omega), show (c : Int) + 1 = ((c + 1 : Nat) : Int) from by omega]
        exact ref_inner l i d n d0 K hd1 hd hl hi r f (c + 1) k (by omega) (by rw [← e]; exact H) (by omega)
      · rw [if_neg (fun h => h2 h.symm)]
        exact stop (by rw [comF, if_neg (fun h => h2 h.2)])
    · rw [if_neg (by omega)]
      exact stop (by rw [comF, if_neg (fun h => h1 h.1)])
/-- The best of the distances that were tried. -/
def BestSo (l : List Int) (i d n d0 : Nat) : Prop :=
  (n = 0 ∧ d0 = 0 ∨ 1 ≤ n ∧ 1 ≤ d0 ∧ d0 < d ∧ d0 ≤ i ∧ com l (i - d0) i = n) ∧ ∀ o, 1 ≤ o → o < d → com l (i - o) i < n ∨ (com l (i - o) i = n ∧ d0 ≤ o)
theorem ref_outer (l : List Int) (i : Nat) (hl : l.length ≤ 4096) (hi : i < l.length) (N D : Nat) (hb : IsBest l i N D) : ∀ (e d n d0 k : Nat), d + e = 2049 → 1 ≤ d → BestSo l i d n d0 → 262 * e + 2 ≤ k →
    wherryref01_Best.l0 k l (i : Int) (n : Int) (d0 : Int) (d : Int) = some ((N : Int), (D : Int))
  | e, d, n, d0, k, he, hd1, hs, hk => by
    obtain ⟨k, rfl⟩ : ∃ m, k = m + 2 := ⟨k - 2, by omega⟩
    have stop : i < d ∨ 2048 < d → wherryref01_Best.j2 (k + 1) l (i : Int) (n : Int) (d0 : Int) (d : Int) false = some ((N : Int), (D : Int)) := by
      intro hstop
      rw [wherryref01_Best.j2, if_neg (by decide)]
      obtain ⟨s1, s2⟩ := hs
      by_cases h3 : n < 3
      · rw [if_pos (by omega)]
        have hz : IsBest l i 0 0 := ⟨Or.inl ⟨rfl, rfl⟩, fun o ho1 ho2 ho3 => by have := s2 o ho1 (by omega); omega⟩
        obtain ⟨rfl, rfl⟩ := hb.one hz
        rfl
      · rw [if_neg (by omega)]
        have s1' := s1.resolve_left (by omega)
        have hz : IsBest l i n d0 := ⟨Or.inr ⟨by omega, by have := com_le l (i - d0) i; omega, by omega, by omega, by omega, by have := com_len l (i - d0) i (by omega); omega, s1'.2.2.2.2⟩, fun o ho1 ho2 ho3 => by have := s2 o ho1 (by omega); omega⟩
        obtain ⟨rfl, rfl⟩ := hb.one hz
        rfl
    rw [wherryref01_Best.l0]
    by_cases h1 : d ≤ i
    · rw [if_pos (by omega)]
      by_cases h2 : d ≤ 2048
      · rw [show (decide ((d : Int) ≤ 2048)) = true from decide_eq_true (by omega), wherryref01_Best.j2, if_pos rfl]
        obtain ⟨e, rfl⟩ : ∃ m, e = m + 1 := ⟨e - 1, by omega⟩
        refine ref_inner l i d n d0 (262 * e + 2) hd1 h1 (by omega) hi _ 258 0 k rfl (fun k' hk' => ?_) (by omega)
        refine ref_outer l i hl hi N D hb e (d + 1) _ _ k' (by omega) (by omega) ?_ hk'
        obtain ⟨s1, s2⟩ := hs
        show BestSo l i (d + 1) (if n < com l (i - d) i then com l (i - d) i else n) (if n < com l (i - d) i then d else d0)
        by_cases hlt : n < com l (i - d) i
        · rw [if_pos hlt, if_pos hlt]
          refine ⟨Or.inr ⟨by omega, hd1, by omega, h1, rfl⟩, fun o ho1 ho2 => ?_⟩
          by_cases eo : o = d
          · subst eo; exact Or.inr ⟨rfl, Nat.le_refl _⟩
          · have := s2 o ho1 (by omega); left; omega
        · rw [if_neg hlt, if_neg hlt]
          refine ⟨by rcases s1 with s | s; exact Or.inl s; exact Or.inr ⟨s.1, s.2.1, by omega, s.2.2.2⟩, fun o ho1 ho2 => ?_⟩
          by_cases eo : o = d
          · subst eo
            rcases Nat.lt_or_ge (com l (i - o) i) n with h | h
            · exact Or.inl h
            · exact Or.inr ⟨by omega, by omega⟩
          · exact s2 o ho1 (by omega)
      · rw [show (decide ((d : Int) ≤ 2048)) = false from decide_eq_false (by omega)]
        exact stop (by omega)
    · rw [if_neg (by omega)]
      exact stop (by omega)
theorem refBest_is (l : List Int) (hl : l.length ≤ 4096) (i : Nat) (hi : i < l.length) (k : Nat) (hk : 600000 ≤ k) : wherryref01_Best.f k l (i : Int) = some (((bestL (noted l i) l i).1 : Int), ((bestL (noted l i) l i).2 : Int)) := by
  unfold wherryref01_Best.f
  obtain ⟨k, rfl⟩ : ∃ m, k = m + 1 := ⟨k - 1, by omega⟩
  rw [if_neg (by omega), wi (by omega) (by omega), wherryref01_in.f, if_pos (by omega), Option.bind_some, show (decide ((i : Int) ≤ (l.length : Int) - 1)) = true from decide_eq_true (by omega), wherryref01_Best.j0, if_neg (by decide)]
  exact ref_outer l i hl hi _ _ (bestL_is l i hi) 2048 1 0 0 k rfl (Nat.le_refl _) ⟨Or.inl ⟨rfl, rfl⟩, fun o h1 h2 => by omega⟩ (by omega)
theorem refTokens_loop (l : List Int) (hl : l.length ≤ 4096) : ∀ (f i k : Nat) (acc : List S53), i ≤ l.length → l.length ≤ i + f → acc.length + f ≤ 8192 → 600001 + f ≤ k → wherryref01_tokens.l0 k l acc (i : Int) = some (acc ++ toks l f i)
  | 0, i, k, acc, h1, h2, h3, hk => by
    obtain ⟨k, rfl⟩ : ∃ m, k = m + 1 := ⟨k - 1, by omega⟩
    rw [wherryref01_tokens.l0, if_neg (by omega), toks, List.append_nil]
  | f + 1, i, k, acc, h1, h2, h3, hk => by
    obtain ⟨k, rfl⟩ : ∃ m, k = m + 1 := ⟨k - 1, by omega⟩
    rw [wherryref01_tokens.l0, toks]
    by_cases hi : i < l.length
    · rw [if_pos (by omega), if_pos hi, refBest_is l hl i hi k (by omega), Option.bind_some]
      dsimp only
      have hbl := bestL_len (noted l i) l i (by omega)
      by_cases h0 : (bestL (noted l i) l i).1 = 0
      · rw [if_pos (by omega), if_pos h0, if_pos (by omega), if_pos (by omega), wi (by omega) (by omega), show (i : Int) + 1 = ((i + 1 : Nat) : Int) from by omega, refTokens_loop l hl f (i + 1) k _ (by omega) (by omega) (by simp; omega) (by omega), rd_nat, List.append_assoc]; rfl
      · rw [if_neg (by omega), if_neg h0, if_pos (by omega), wi (by omega) (by omega), show (i : Int) + ((bestL (noted l i) l i).1 : Int) = ((i + (bestL (noted l i) l i).1 : Nat) : Int) from by omega, refTokens_loop l hl f _ k _ (by omega) (by omega) (by simp; omega) (by omega), List.append_assoc]; rfl
    · rw [if_neg (by omega), if_neg hi, List.append_nil]
theorem in_is (a b c : Int) : wherryref01_in.f a b c = some (decide (b ≤ a ∧ a ≤ c)) := by
  unfold wherryref01_in.f
  by_cases h : a ≥ b
  · rw [if_pos h]
    congr 1
    exact decide_eq_decide.2 (by omega)
  · rw [if_neg h, decide_eq_false (by omega)]
theorem rof_l : ∀ s : Fin 28, wherryref01_LenOf.f (257 + (s.val : Int)) = some (3 + (ll s.val : Int), (lk s.val : Int), 0) := by decide +kernel
theorem rof_285 : wherryref01_LenOf.f 285 = some (258, 0, 0) := by decide +kernel
theorem rof_d : ∀ s : Fin 30, wherryref01_DistOf.f (s.val : Int) = some (1 + (dl s.val : Int), (dk s.val : Int), 0) := by decide +kernel
theorem ll_mono : ∀ x y : Fin 29, x.val ≤ y.val → ll x.val ≤ ll y.val := by decide
theorem dl_mono : ∀ x y : Fin 31, x.val ≤ y.val → dl x.val ≤ dl y.val := by decide
theorem ll_top : ∀ x : Fin 29, ll x.val ≤ 40000 := by decide
theorem dl_top : ∀ x : Fin 31, dl x.val ≤ 40000 := by decide
theorem refLen_down (n s : Nat) (h0 : 3 ≤ n) (h1 : n < 258) (hs : s < 28) (a : ll s ≤ n - 3) (b : n - 3 < ll (s + 1)) : ∀ (e j k : Nat), s + e = j → j < 28 → e < k →
    wherryref01_Len.l0 k (n : Int) (257 + (j : Int)) = some (((257 + s : Nat) : Int), ((lk s : Nat) : Int), ((n - 3 - ll s : Nat) : Int), 0)
  | e, j, k, he, hj, hk => by
    obtain ⟨k, rfl⟩ : ∃ m, k = m + 1 := ⟨k - 1, by omega⟩
    have ht := rof_l ⟨j, hj⟩
    have hb := ll_top ⟨j, by omega⟩
    simp only at ht hb
    rw [wherryref01_Len.l0, if_pos (by omega), if_neg (by omega), if_pos (by omega), wherryref01_leastLen.f, ht, Option.bind_some, Option.bind_some, Option.bind_some]
    dsimp only
    by_cases hes : e = 0
    · subst hes
      obtain rfl : s = j := by omega
      rw [if_neg (by omega), wi (by omega) (by omega), show (n : Int) - (3 + (ll s : Int)) = ((n - 3 - ll s : Nat) : Int) from by omega]
      rfl
    · have hm := ll_mono ⟨s + 1, by omega⟩ ⟨j, by omega⟩ (by simp only; omega)
      simp only at hm
      obtain ⟨e, rfl⟩ : ∃ m, e = m + 1 := ⟨e - 1, by omega⟩
      obtain ⟨j, rfl⟩ : ∃ m, j = m + 1 := ⟨j - 1, by omega⟩
      rw [if_pos (by omega), wi (by omega) (by omega), show 257 + ((j + 1 : Nat) : Int) - 1 = 257 + (j : Int) from by omega]
      exact refLen_down n s h0 h1 hs a b e j k (by omega) (by omega) (by omega)
theorem refDist_down (n s : Nat) (h0 : 1 ≤ n) (h1 : n ≤ 32768) (hs : s < 30) (a : dl s ≤ n - 1) (b : n - 1 < dl (s + 1)) : ∀ (e j k : Nat), s + e = j → j < 30 → e < k →
    wherryref01_Dist.l0 k (n : Int) (j : Int) = some ((s : Int), ((dk s : Nat) : Int), ((n - 1 - dl s : Nat) : Int), 0)
  | e, j, k, he, hj, hk => by
    obtain ⟨k, rfl⟩ : ∃ m, k = m + 1 := ⟨k - 1, by omega⟩
    have ht := rof_d ⟨j, hj⟩
    have hb := dl_top ⟨j, by omega⟩
    simp only at ht hb
    by_cases hj0 : j = 0
    · subst hj0
      obtain rfl : s = 0 := by omega
      have e1 : dl 0 = 0 := rfl
      have e2 : dl (0 + 1) = 1 := rfl
      rw [e2] at b
      rw [wherryref01_Dist.l0, if_neg (by omega), e1, show dk 0 = 0 from rfl]
      congr 3; congr 1; omega
    rw [wherryref01_Dist.l0, if_pos (by omega), ht, Option.bind_some]
    dsimp only
    by_cases hes : e = 0
    · subst hes
      obtain rfl : s = j := by omega
      rw [if_pos (by omega), wi (by omega) (by omega)]
      congr 3; congr 1; omega
    · have hm := dl_mono ⟨s + 1, by omega⟩ ⟨j, by omega⟩ (by simp only; omega)
      simp only at hm
      obtain ⟨e, rfl⟩ : ∃ m, e = m + 1 := ⟨e - 1, by omega⟩
      obtain ⟨j, rfl⟩ : ∃ m, j = m + 1 := ⟨j - 1, by omega⟩
      rw [if_neg (by omega), wi (by omega) (by omega), show ((j + 1 : Nat) : Int) - 1 = (j : Int) from by omega]
      exact refDist_down n s h0 h1 hs a b e j k (by omega) (by omega) (by omega)
theorem len_in (n : Nat) (h0 : 3 ≤ n) (h1 : n ≤ 258) : ∃ s m v : Nat, 257 ≤ s ∧ s ≤ 285 ∧ ∀ k, 100 ≤ k → sym_Len.f k (n : Int) = some ((s : Int), (m : Int), (v : Int), 0) ∧ wherryref01_Len.f k (n : Int) = some ((s : Int), (m : Int), (v : Int), 0) := by
  by_cases h : n = 258
  · refine ⟨285, 0, 0, by omega, by omega, fun k hk => ?_⟩
    subst h
    obtain ⟨k, rfl⟩ : ∃ m, k = m + 1 := ⟨k - 1, by omega⟩
    refine ⟨?_, ?_⟩
    · unfold sym_Len.f
      rw [if_neg (by omega), decide_eq_false (by omega), sym_Len.j0, if_neg (by decide), if_pos (by rfl)]
      rfl
    · unfold wherryref01_Len.f
      rw [in_is, Option.bind_some, if_pos (decide_eq_true ⟨by omega, by omega⟩), wherryref01_Len.l0, if_neg (by omega), if_neg (by omega), rof_285, Option.bind_some]
      dsimp only
      rw [wi (by omega) (by omega)]
      rfl
  · obtain ⟨s, s1, s2, s3, _⟩ := at_l (n - 3) 70 (by omega) (by omega)
    refine ⟨257 + s, lk s, n - 3 - ll s, by omega, by omega, fun k hk => ?_⟩
    obtain ⟨k, rfl⟩ : ∃ m, k = m + 1 := ⟨k - 1, by omega⟩
    obtain ⟨s', p1, p2, p3, p4⟩ := at_l (n - 3) k (by omega) (by omega)
    obtain rfl : s' = s := by
      have mono : ∀ x y : Fin 29, x.val ≤ y.val → ll x.val ≤ ll y.val := by decide
      by_cases hlt : s' < s
      · have := mono ⟨s' + 1, by omega⟩ ⟨s, by omega⟩ (by simp only; omega)
        simp only at this; omega
      · by_cases hgt : s < s'
        · have := mono ⟨s + 1, by omega⟩ ⟨s', by omega⟩ (by simp only; omega)
          simp only at this; omega
        · omega
    refine ⟨?_, ?_⟩
    · unfold sym_Len.f
      rw [if_neg (by omega), decide_eq_false (by omega), sym_Len.j0, if_neg (by decide), if_neg (by omega), sym_lens.f, Option.bind_some]
      dsimp only
      rw [wi (by omega) (by omega), show (n : Int) - 3 = ((n - 3 : Nat) : Int) from by omega, p4, Option.bind_some]
      dsimp only
      rw [wi (by omega) (by omega)]
      congr 3
      · congr 1; congr 1; omega
    · unfold wherryref01_Len.f
      rw [in_is, Option.bind_some, if_pos (decide_eq_true ⟨by omega, by omega⟩), wherryref01_Len.l0, if_pos (by omega), if_pos rfl, wi (by omega) (by omega)]
      exact refLen_down n s' (by omega) (by omega) s1 p2 p3 (27 - s') 27 k (by omega) (by omega) (by omega)
theorem dist_in (n : Nat) (h0 : 1 ≤ n) (h1 : n ≤ 32768) : ∃ s m v : Nat, s ≤ 29 ∧ ∀ k, 100 ≤ k → sym_Dist.f k (n : Int) = some ((s : Int), (m : Int), (v : Int), 0) ∧ wherryref01_Dist.f k (n : Int) = some ((s : Int), (m : Int), (v : Int), 0) := by
  obtain ⟨s, s1, s2, s3, _⟩ := at_d (n - 1) 70 (by omega) (by omega)
  refine ⟨s, dk s, n - 1 - dl s, by omega, fun k hk => ?_⟩
  obtain ⟨k, rfl⟩ : ∃ m, k = m + 1 := ⟨k - 1, by omega⟩
  obtain ⟨s', p1, p2, p3, p4⟩ := at_d (n - 1) k (by omega) (by omega)
  obtain rfl : s' = s := by
    have mono : ∀ x y : Fin 31, x.val ≤ y.val → dl x.val ≤ dl y.val := by decide
    by_cases hlt : s' < s
    · have := mono ⟨s' + 1, by omega⟩ ⟨s, by omega⟩ (by simp only; omega)
      simp only at this; omega
    · by_cases hgt : s < s'
      · have := mono ⟨s + 1, by omega⟩ ⟨s', by omega⟩ (by simp only; omega)
        simp only at this; omega
      · omega
  refine ⟨?_, ?_⟩
  · unfold sym_Dist.f
    rw [if_neg (by omega), decide_eq_false (by omega), sym_Dist.j0, if_neg (by decide), sym_dists.f, Option.bind_some]
    dsimp only
    rw [wi (by omega) (by omega), show (n : Int) - 1 = ((n - 1 : Nat) : Int) from by omega, p4, Option.bind_some]
    dsimp only
    congr 3
    · congr 1; congr 1; omega
  · unfold wherryref01_Dist.f
    rw [in_is, Option.bind_some, if_pos (decide_eq_true ⟨by omega, by omega⟩)]
    exact refDist_down n s' (by omega) (by omega) s1 p2 p3 (29 - s') 29 (k + 1) (by omega) (by omega) (by omega)
end Go.Proofs.Ytlffpaploefljaa.Tok
