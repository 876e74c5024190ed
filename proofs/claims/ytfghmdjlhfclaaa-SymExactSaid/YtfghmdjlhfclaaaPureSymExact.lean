/- SymExact holds: the package and the page answer alike; at every int and every row of tokens. No condition. -/
import Derived.Test.YtfghmdjlhfclaaaSymToks
import Derived.Test.YtfghmdjlhfclaaaSymWts
import Derived.Test.YtfghmdjlhfclaaaPx0
import Derived.Test.YtfghmdjlhfclaaaPx1
import Derived.Test.YtfghmdjlhfclaaaPx3
import Derived.Test.YtfghmdjlhfclaaaPx5
import Derived.Test.YtfghmdjlhfclaaaPx6
import Derived.Test.YtfghmdjlhfclaaaPx7
import Derived.Test.YtfghmdjlhfclaaaPx8
import Derived.Test.YtfghmdjlhfclaaaPx9
namespace Go.Proofs.Ytfghmdjlhfclaaa.Pure
open Go.RowKit Go.Proofs.Ytfghmdjlhfclaaa.P Go.Proofs.YtfghmdjlhfclaaaW.PrintWords Go.Proofs.YtfghmdjlhfclaaaW.PrintLast Go.Proofs.YtfghmdjlhfclaaaW.PrintMore
set_option linter.unusedVariables false
set_option linter.unusedSimpArgs false
theorem len_both (n : Int) (k : Nat) (hk : 101 ≤ k) : ∃ r, sym_Len.f k n = some r ∧ wherryref01_Len.f k n = some r := by
  by_cases h : 3 ≤ n ∧ n ≤ 258
  · obtain ⟨m, rfl⟩ := Int.eq_ofNat_of_zero_le (show 0 ≤ n by omega)
    obtain ⟨s, x, v, _, _, h3⟩ := len_in m (by omega) (by omega)
    exact ⟨_, (h3 k (by omega)).1, (h3 k (by omega)).2⟩
  · obtain ⟨k, rfl⟩ : ∃ m, k = m + 1 := ⟨k - 1, by omega⟩
    refine ⟨(0, 0, 0, 1), ?_, ?_⟩
    · unfold sym_Len.f
      by_cases h1 : n < 3
      · rw [if_pos h1, sym_Len.j0, if_pos rfl]
      · rw [if_neg h1, decide_eq_true (by omega), sym_Len.j0, if_pos rfl]
    · unfold wherryref01_Len.f
      rw [in_is, decide_eq_false h, Option.bind_some, if_neg (by decide)]
theorem dist_both (n : Int) (k : Nat) (hk : 101 ≤ k) : ∃ r, sym_Dist.f k n = some r ∧ wherryref01_Dist.f k n = some r := by
  by_cases h : 1 ≤ n ∧ n ≤ 32768
  · obtain ⟨m, rfl⟩ := Int.eq_ofNat_of_zero_le (show 0 ≤ n by omega)
    obtain ⟨s, x, v, _, h3⟩ := dist_in m (by omega) (by omega)
    exact ⟨_, (h3 k (by omega)).1, (h3 k (by omega)).2⟩
  · obtain ⟨k, rfl⟩ : ∃ m, k = m + 1 := ⟨k - 1, by omega⟩
    refine ⟨(0, 0, 0, 1), ?_, ?_⟩
    · unfold sym_Dist.f
      by_cases h1 : n < 1
      · rw [if_pos h1, sym_Dist.j0, if_pos rfl]
      · rw [if_neg h1, decide_eq_true (by omega), sym_Dist.j0, if_pos rfl]
    · unfold wherryref01_Dist.f
      rw [in_is, decide_eq_false h, Option.bind_some, if_neg (by decide)]
theorem lenof_both (n : Int) (k : Nat) (hk : 101 ≤ k) : ∃ r, sym_LenOf.f k n = some r ∧ wherryref01_LenOf.f n = some r := by
  obtain ⟨k, rfl⟩ : ∃ m, k = m + 1 := ⟨k - 1, by omega⟩
  by_cases h : 257 ≤ n ∧ n ≤ 285
  · by_cases h2 : n = 285
    · subst h2
      refine ⟨_, ?_, rof_285⟩
      unfold sym_LenOf.f
      rw [if_neg (by omega), decide_eq_false (by omega), sym_LenOf.j0, if_neg (by decide), if_pos rfl]
    · obtain ⟨s, hs⟩ := Int.eq_ofNat_of_zero_le (show 0 ≤ n - 257 by omega)
      have hs2 : s < 28 := by omega
      have hr := rof_l ⟨s, hs2⟩
      have ho := at_rounds (sym_scale_of.mono 8 4 (s : Int)) (k' := k) (by omega) (of_l ⟨s, hs2⟩)
      have ht := ll_top ⟨s, by omega⟩
      simp only at hr ho ht
      rw [show 257 + (s : Int) = n from by omega] at hr
      refine ⟨_, ?_, hr⟩
      unfold sym_LenOf.f
      rw [if_neg (by omega), decide_eq_false (by omega), sym_LenOf.j0, if_neg (by decide), if_neg h2, sym_lens.f, Option.bind_some]
      dsimp only
      rw [wi (by omega) (by omega), hs, ho, Option.bind_some]
      dsimp only
      rw [wi (by omega) (by omega)]
  · refine ⟨(0, 0, 1), ?_, ?_⟩
    · unfold sym_LenOf.f
      by_cases h1 : n < 257
      · rw [if_pos h1, sym_LenOf.j0, if_pos rfl]
      · rw [if_neg h1, decide_eq_true (by omega), sym_LenOf.j0, if_pos rfl]
    · unfold wherryref01_LenOf.f
      rw [in_is, decide_eq_false h, Option.bind_some, if_neg (by decide)]
theorem distof_both (n : Int) (k : Nat) (hk : 101 ≤ k) : ∃ r, sym_DistOf.f k n = some r ∧ wherryref01_DistOf.f n = some r := by
  obtain ⟨k, rfl⟩ : ∃ m, k = m + 1 := ⟨k - 1, by omega⟩
  by_cases h : 0 ≤ n ∧ n ≤ 29
  · obtain ⟨s, rfl⟩ := Int.eq_ofNat_of_zero_le h.1
    have hs2 : s < 30 := by omega
    have hr := rof_d ⟨s, hs2⟩
    have ho := at_rounds (sym_scale_of.mono 4 2 (s : Int)) (k' := k) (by omega) (of_d ⟨s, hs2⟩)
    have ht := dl_top ⟨s, by omega⟩
    simp only at hr ho ht
    refine ⟨_, ?_, hr⟩
    unfold sym_DistOf.f
    rw [if_neg (by omega), decide_eq_false (by omega), sym_DistOf.j0, if_neg (by decide), sym_dists.f, Option.bind_some]
    dsimp only
    rw [ho, Option.bind_some]
    dsimp only
    rw [wi (by omega) (by omega)]
  · refine ⟨(0, 0, 1), ?_, ?_⟩
    · unfold sym_DistOf.f
      by_cases h1 : n < 0
      · rw [if_pos h1, sym_DistOf.j0, if_pos rfl]
      · rw [if_neg h1, decide_eq_true (by omega), sym_DistOf.j0, if_pos rfl]
    · unfold wherryref01_DistOf.f
      rw [in_is, decide_eq_false h, Option.bind_some, if_neg (by decide)]
theorem fixed_700 : sym_Fixed.f 1000 = wherryref01_Fixed.f 1000 ∧ ((sym_Fixed.f 1000).map (fun r => (r.1.length, r.2.length))) = some (288, 32) := by decide +kernel
theorem fixed_both (k : Nat) (hk : 1000 ≤ k) : ∃ r : List Int × List Int, r.1.length = 288 ∧ r.2.length = 32 ∧ sym_Fixed.f k = some r ∧ wherryref01_Fixed.f k = some r := by
  obtain ⟨h1, h2⟩ := fixed_700
  cases h : sym_Fixed.f 1000 with
  | none => rw [h] at h2; cases h2
  | some r =>
    rw [h] at h1 h2
    simp only [Option.map_some, Option.some.injEq, Prod.mk.injEq] at h2
    exact ⟨r, h2.1, h2.2, at_rounds sym_Fixed.mono hk h, at_rounds wherryref01_Fixed.mono hk h1.symm⟩
theorem keepInts_loop (a : List Int) (hm : a.length < 2 ^ 60) : ∀ (d i k : Nat), i + d = a.length → d < k → wherrykeep_Ints.l0 k a a (i : Int) = some true
  | 0, i, k, hi, hk => by
    obtain ⟨k, rfl⟩ : ∃ m, k = m + 1 := ⟨k - 1, by omega⟩
    rw [wherrykeep_Ints.l0, if_neg (by omega)]
  | d + 1, i, k, hi, hk => by
    obtain ⟨k, rfl⟩ : ∃ m, k = m + 1 := ⟨k - 1, by omega⟩
    rw [wherrykeep_Ints.l0, if_pos (by omega), if_pos (by omega), if_pos (by omega), if_pos rfl, wi (by omega) (by omega)]
    exact keepInts_loop a hm d (i + 1) k (by omega) (by omega)
theorem keepInts_same (a : List Int) (hm : a.length < 2 ^ 60) (k : Nat) (hk : a.length < k) : wherrykeep_Ints.f k a a = some true := by
  unfold wherrykeep_Ints.f
  rw [if_pos rfl]
  exact keepInts_loop a hm a.length 0 k (by omega) hk
theorem keepToks_loop (a : List S39) (hm : a.length < 2 ^ 60) : ∀ (d i k : Nat), i + d = a.length → d < k → wherrykeep_Toks.l0 k a a (i : Int) = some true
  | 0, i, k, hi, hk => by
    obtain ⟨k, rfl⟩ : ∃ m, k = m + 1 := ⟨k - 1, by omega⟩
    rw [wherrykeep_Toks.l0, if_neg (by omega)]
  | d + 1, i, k, hi, hk => by
    obtain ⟨k, rfl⟩ : ∃ m, k = m + 1 := ⟨k - 1, by omega⟩
    rw [wherrykeep_Toks.l0, if_pos (by omega), if_pos (by omega), if_pos (by omega), if_pos rfl, if_pos rfl, if_pos rfl, wi (by omega) (by omega)]
    exact keepToks_loop a hm d (i + 1) k (by omega) (by omega)
theorem keepToks_same (a : List S39) (hm : a.length < 2 ^ 60) (k : Nat) (hk : a.length < k) : wherrykeep_Toks.f k a a = some true := by
  unfold wherrykeep_Toks.f
  rw [if_pos rfl]
  exact keepToks_loop a hm a.length 0 k (by omega) hk
theorem wts_both (l : List S39) (hl : l.length ≤ 600) (hby : ∀ t ∈ l, 0 ≤ t.f0 ∧ t.f0 < 256) (k : Nat) (hk : 20000 ≤ k) : ∃ (a b : List Int) (e : Int), a.length ≤ 286 ∧ b.length ≤ 30 ∧ sym_Weights.f k l = some (a, b, e) ∧ wherryref01_Weights.f k l = some (a, b, e) := by
  obtain ⟨e, h1, h2, h3⟩ := check_both l hl k (by omega)
  by_cases he : e = 0
  · subst he
    obtain ⟨h4, h5⟩ := h3 rfl
    obtain ⟨a, b, q1, q2, _, _, _, _, _, q8⟩ := wts_is l (by omega) h4 hby h5
    refine ⟨inc a 256, b, 0, by rw [inc_len]; omega, by omega, (q8 k hk).1, ?_⟩
    unfold wherryref01_Weights.f
    rw [h2, Option.bind_some, if_pos rfl, (q8 k hk).2, Option.bind_some]
  · refine ⟨[], [], e, by simp, by simp, ?_, ?_⟩
    · unfold sym_Weights.f
      rw [h1, Option.bind_some, if_neg he]
    · unfold wherryref01_Weights.f
      rw [h2, Option.bind_some, if_neg he]
theorem SymExact (n : Int) (l : List S39) (hby : ∀ t ∈ l, 0 ≤ t.f0 ∧ t.f0 < 256) : ∃ k, wherrylaw05_SymExact.f k n l = some true := by
  have H : ∀ k, 30000 ≤ k → wherrylaw05_SymExact.f (k + 4) n l = some true := by
    intro k hk
    unfold wherrylaw05_SymExact.f
    by_cases h : (l.length : Int) > 600
    · rw [if_pos h]
    obtain ⟨r1, a1, b1⟩ := len_both n (k + 4) (by omega)
    obtain ⟨r2, a2, b2⟩ := dist_both n (k + 3) (by omega)
    obtain ⟨r3, a3, b3⟩ := lenof_both n (k + 2) (by omega)
    obtain ⟨r4, a4, b4⟩ := distof_both n (k + 1) (by omega)
    obtain ⟨r5, l1, l2, a5, b5⟩ := fixed_both k (by omega)
    obtain ⟨x, y, e, l3, l4, a6, b6⟩ := wts_both l (by omega) hby k (by omega)
    have hw : wherrylaw05_wakes.f k = some true := at_rounds wherrylaw05_wakes.mono (k := 100) (k' := k) (by omega) (by decide +kernel)
    rw [if_neg h, a1, Option.bind_some, b1, Option.bind_some, if_pos rfl, if_pos rfl, if_pos rfl, bne_self_eq_false, wherrylaw05_SymExact.j0, if_neg (by decide), a2, Option.bind_some, b2, Option.bind_some, if_pos rfl, if_pos rfl, if_pos rfl, bne_self_eq_false, wherrylaw05_SymExact.j1, if_neg (by decide), a3, Option.bind_some, b3, Option.bind_some, if_pos rfl, if_pos rfl, bne_self_eq_false, wherrylaw05_SymExact.j2, if_neg (by decide), a4, Option.bind_some, b4, Option.bind_some, if_pos rfl, if_pos rfl, bne_self_eq_false, wherrylaw05_SymExact.j3, if_neg (by decide), a5, Option.bind_some, b5, Option.bind_some, wherrykeep_TwinToks.f, if_pos (by simp only [List.length_nil]; omega), List.nil_append, Option.bind_some, a6, Option.bind_some, b6, Option.bind_some]
    dsimp only
    rw [keepInts_same _ (by omega) k (by omega), Option.bind_some, if_pos rfl, keepInts_same _ (by omega) k (by omega), Option.bind_some, if_pos rfl, if_pos rfl, keepInts_same _ (by omega) k (by omega), Option.bind_some, if_pos rfl, keepInts_same _ (by omega) k (by omega), Option.bind_some, if_pos rfl, keepToks_same _ (by omega) k (by omega), Option.bind_some, if_pos rfl, hw, Option.bind_some]
  exact ⟨30000 + 4, H 30000 (Nat.le_refl _)⟩
end Go.Proofs.Ytfghmdjlhfclaaa.Pure
