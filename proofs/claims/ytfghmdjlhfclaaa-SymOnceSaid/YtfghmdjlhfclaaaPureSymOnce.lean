/- SymOnce holds: at every two ints the length and the distance that they name are the least one of their symbol and what the further bits say, and the next one has this symbol or the next. No condition. -/
import Derived.Test.YtfghmdjlhfclaaaPSymOncex2
namespace Go.Proofs.Ytfghmdjlhfclaaa.Pure
open Go.RowKit Go.Proofs.Ytfghmdjlhfclaaa.PSymOnce Go.Proofs.YtfghmdjlhfclaaaW.PrintWords Go.Proofs.YtfghmdjlhfclaaaW.PrintLast

theorem wrap_u64 (a : Int) : IntKind.u64.wrap a = a % 18446744073709551616 := by
  simp [IntKind.wrap, IntKind.signed, IntKind.bits]
theorem wrap64_in {a : Int} (h0 : -9223372036854775808 ≤ a) (h1 : a < 9223372036854775808) : wrap64 a = a := by
  unfold wrap64; omega

/-- The least distance (from 0 on) of a symbol, in the document's closed form. -/
def dl : Nat → Nat
  | 0 => 0 | 1 => 1 | 2 => 2 | 3 => 3 | 4 => 4 | 5 => 6 | 6 => 8 | 7 => 12 | 8 => 16 | 9 => 24 | 10 => 32 | 11 => 48 | 12 => 64 | 13 => 96 | 14 => 128 | 15 => 192 | 16 => 256 | 17 => 384 | 18 => 512 | 19 => 768 | 20 => 1024 | 21 => 1536 | 22 => 2048 | 23 => 3072 | 24 => 4096 | 25 => 6144 | 26 => 8192 | 27 => 12288 | 28 => 16384 | 29 => 24576 | _ => 32768
def dk (s : Nat) : Nat := s / 2 - 1
def ll : Nat → Nat
  | 0 => 0 | 1 => 1 | 2 => 2 | 3 => 3 | 4 => 4 | 5 => 5 | 6 => 6 | 7 => 7 | 8 => 8 | 9 => 10 | 10 => 12 | 11 => 14 | 12 => 16 | 13 => 20 | 14 => 24 | 15 => 28 | 16 => 32 | 17 => 40 | 18 => 48 | 19 => 56 | 20 => 64 | 21 => 80 | 22 => 96 | 23 => 112 | 24 => 128 | 25 => 160 | 26 => 192 | 27 => 224 | _ => 256
def lk (s : Nat) : Nat := s / 4 - 1

theorem of_d : ∀ s : Fin 30, sym_scale_of.f 40 4 2 (s.val : Int) = some ((dl s.val : Int), (dk s.val : Int)) := by decide +kernel
theorem of_l : ∀ s : Fin 28, sym_scale_of.f 40 8 4 (s.val : Int) = some ((ll s.val : Int), (lk s.val : Int)) := by decide +kernel
theorem dl_succ : ∀ s : Fin 30, dl (s.val + 1) = dl s.val + 2 ^ dk s.val := by decide
theorem ll_succ : ∀ s : Fin 28, ll (s.val + 1) = ll s.val + 2 ^ lk s.val := by decide
theorem shl_d : ∀ s : Fin 30, shl .i64 1 (IntKind.u64.wrap (dk s.val : Int)) = ((2 ^ dk s.val : Nat) : Int) ∧ 0 ≤ IntKind.u64.wrap (dk s.val : Int) := by decide +kernel
theorem shl_l : ∀ s : Fin 28, shl .i64 1 (IntKind.u64.wrap (lk s.val : Int)) = ((2 ^ lk s.val : Nat) : Int) ∧ 0 ≤ IntKind.u64.wrap (lk s.val : Int) := by decide +kernel

theorem at_gen (A B : Int) (D K : Nat → Nat) (T : Nat) (hT : T ≤ 40) (hof : ∀ s, s < T → sym_scale_of.f 40 A B (s : Int) = some ((D s : Int), (K s : Int)))
    (hsucc : ∀ s, s < T → D (s + 1) = D s + 2 ^ K s) (hshl : ∀ s, s < T → shl .i64 1 (IntKind.u64.wrap (K s : Int)) = ((2 ^ K s : Nat) : Int) ∧ 0 ≤ IntKind.u64.wrap (K s : Int))
    (hD : D T ≤ 40000) : ∀ (t s n k : Nat), s + t + 1 = T → D s ≤ n → n < D T → 41 + t ≤ k →
      ∃ s', s ≤ s' ∧ s' < T ∧ D s' ≤ n ∧ n < D (s' + 1) ∧ sym_scale_at.l0 k (n : Int) (s : Int) A B = some ((s' : Int), (K s' : Int), (n : Int) - (D s' : Int)) := by
  intro t
  induction t with
  | zero =>
    intro s n k hs h0 h1 hk
    obtain ⟨k, rfl⟩ : ∃ m, k = m + 1 := ⟨k - 1, by omega⟩
    have e := at_rounds (sym_scale_of.mono A B s) (k' := k) (by omega) (hof s (by omega))
    obtain ⟨e1, e2⟩ := hshl s (by omega)
    have hs1 : s + 1 = T := by omega
    have hn : n < D s + 2 ^ K s := by rw [← hsucc s (by omega), hs1]; exact h1
    refine ⟨s, Nat.le_refl _, by omega, h0, by rw [hs1]; exact h1, ?_⟩
    simp only [sym_scale_at.l0]
    rw [e]
    simp only [Option.bind_some]
    rw [wrap64_in (by omega) (by omega), if_pos e2, e1, if_pos (by omega)]
  | succ t ih =>
    intro s n k hs h0 h1 hk
    obtain ⟨k, rfl⟩ : ∃ m, k = m + 1 := ⟨k - 1, by omega⟩
    have e := at_rounds (sym_scale_of.mono A B s) (k' := k) (by omega) (hof s (by omega))
    obtain ⟨e1, e2⟩ := hshl s (by omega)
    by_cases hn : n < D s + 2 ^ K s
    · refine ⟨s, Nat.le_refl _, by omega, h0, by rw [hsucc s (by omega)]; exact hn, ?_⟩
      simp only [sym_scale_at.l0]
      rw [e]
      simp only [Option.bind_some]
      rw [wrap64_in (by omega) (by omega), if_pos e2, e1, if_pos (by omega)]
    · obtain ⟨s', a, b, c, d, e'⟩ := ih (s + 1) n k (by omega) (by rw [hsucc s (by omega)]; omega) h1 (by omega)
      refine ⟨s', by omega, b, c, d, ?_⟩
      simp only [sym_scale_at.l0]
      rw [e]
      simp only [Option.bind_some]
      rw [wrap64_in (by omega) (by omega), if_pos e2, e1, if_neg (by omega), wrap64_in (by omega) (by omega)]
      exact e'

theorem step_of (D K : Nat → Nat) (T : Nat) (hsucc : ∀ s, s < T → D (s + 1) = D s + 2 ^ K s) (n s s' : Nat) (h : s < T) (h' : s' < T)
    (a : D s ≤ n) (b : n < D (s + 1)) (c : D s' ≤ n + 1) (d : n + 1 < D (s' + 1)) : s' = s ∨ s' = s + 1 := by
  have mono : ∀ j i, i + j ≤ T → D i ≤ D (i + j) := by
    intro j
    induction j with
    | zero => intro i _; exact Nat.le_refl _
    | succ j ih => intro i hi; have h1 := ih i (by omega); have h2 := hsucc (i + j) (by omega); rw [← Nat.add_assoc, h2]; exact Nat.le_trans h1 (Nat.le_add_right _ _)
  by_cases h1 : s' < s
  · have := mono (s - (s' + 1)) (s' + 1) (by omega)
    rw [show s' + 1 + (s - (s' + 1)) = s from by omega] at this
    omega
  · by_cases h2 : s + 1 < s'
    · have e := hsucc (s + 1) (by omega)
      have := mono (s' - (s + 2)) (s + 2) (by omega)
      rw [show s + 2 + (s' - (s + 2)) = s' from by omega] at this
      have hp : 0 < 2 ^ K (s + 1) := Nat.two_pow_pos _
      rw [show s + 1 + 1 = s + 2 from rfl] at e
      omega
    · omega

/-- The symbol of a distance, from 0 on; of a length, from 0 on. -/
theorem at_d (n k : Nat) (h : n < 32768) (hk : 70 ≤ k) : ∃ s, s < 30 ∧ dl s ≤ n ∧ n < dl (s + 1) ∧ sym_scale_at.f k 4 2 (n : Int) = some ((s : Int), (dk s : Int), (n : Int) - (dl s : Int)) := by
  obtain ⟨s, _, a, b, c, d⟩ := at_gen 4 2 dl dk 30 (by decide) (fun s h => of_d ⟨s, h⟩) (fun s h => dl_succ ⟨s, h⟩) (fun s h => shl_d ⟨s, h⟩) (by decide) 29 0 n k rfl (Nat.zero_le _) h (by omega)
  exact ⟨s, a, b, c, d⟩
theorem at_l (n k : Nat) (h : n < 256) (hk : 70 ≤ k) : ∃ s, s < 28 ∧ ll s ≤ n ∧ n < ll (s + 1) ∧ sym_scale_at.f k 8 4 (n : Int) = some ((s : Int), (lk s : Int), (n : Int) - (ll s : Int)) := by
  obtain ⟨s, _, a, b, c, d⟩ := at_gen 8 4 ll lk 28 (by decide) (fun s h => of_l ⟨s, h⟩) (fun s h => ll_succ ⟨s, h⟩) (fun s h => shl_l ⟨s, h⟩) (by decide) 27 0 n k rfl (Nat.zero_le _) h (by omega)
  exact ⟨s, a, b, c, d⟩

theorem len_is (n k : Nat) (h0 : 3 ≤ n) (h1 : n < 258) (hk : 80 ≤ k) : ∃ s, s < 28 ∧ ll s ≤ n - 3 ∧ n - 3 < ll (s + 1) ∧ sym_Len.f k (n : Int) = some (257 + (s : Int), (lk s : Int), (n : Int) - 3 - (ll s : Int), 0) := by
  obtain ⟨k, rfl⟩ : ∃ m, k = m + 1 := ⟨k - 1, by omega⟩
  obtain ⟨s, a, b, c, e⟩ := at_l (n - 3) k (by omega) (by omega)
  refine ⟨s, a, b, c, ?_⟩
  unfold sym_Len.f
  rw [if_neg (by omega), decide_eq_false (by omega)]
  simp only [sym_Len.j0, sym_lens.f, Option.bind_some]
  rw [if_neg (by decide), if_neg (by omega), wrap64_in (by omega) (by omega), show (n : Int) - 3 = ((n - 3 : Nat) : Int) from by omega, e]
  simp only [Option.bind_some]
  rw [wrap64_in (by omega) (by omega)]

theorem len_258 (k : Nat) (hk : 80 ≤ k) : sym_Len.f k 258 = some (285, 0, 0, 0) := by
  obtain ⟨k, rfl⟩ : ∃ m, k = m + 1 := ⟨k - 1, by omega⟩
  rfl

theorem dist_is (n k : Nat) (h0 : 1 ≤ n) (h1 : n ≤ 32768) (hk : 80 ≤ k) : ∃ s, s < 30 ∧ dl s ≤ n - 1 ∧ n - 1 < dl (s + 1) ∧ sym_Dist.f k (n : Int) = some ((s : Int), (dk s : Int), (n : Int) - 1 - (dl s : Int), 0) := by
  obtain ⟨k, rfl⟩ : ∃ m, k = m + 1 := ⟨k - 1, by omega⟩
  obtain ⟨s, a, b, c, e⟩ := at_d (n - 1) k (by omega) (by omega)
  refine ⟨s, a, b, c, ?_⟩
  unfold sym_Dist.f
  rw [if_neg (by omega), decide_eq_false (by omega)]
  simp only [sym_Dist.j0, sym_dists.f, Option.bind_some]
  rw [if_neg (by decide), wrap64_in (by omega) (by omega), show (n : Int) - 1 = ((n - 1 : Nat) : Int) from by omega, e]
  simp only [Option.bind_some]

theorem lenOf_is (s k : Nat) (h : s < 28) (hk : 80 ≤ k) : sym_LenOf.f k (257 + (s : Int)) = some (3 + (ll s : Int), (lk s : Int), 0) := by
  have key : ∀ s : Fin 28, sym_LenOf.f 80 (257 + (s.val : Int)) = some (3 + (ll s.val : Int), (lk s.val : Int), 0) := by decide +kernel
  exact at_rounds (sym_LenOf.mono _) hk (key ⟨s, h⟩)
theorem lenOf_258 (k : Nat) (hk : 80 ≤ k) : sym_LenOf.f k 285 = some (258, 0, 0) := at_rounds (sym_LenOf.mono _) hk (by decide +kernel)
theorem distOf_is (s k : Nat) (h : s < 30) (hk : 80 ≤ k) : sym_DistOf.f k (s : Int) = some (1 + (dl s : Int), (dk s : Int), 0) := by
  have key : ∀ s : Fin 30, sym_DistOf.f 80 (s.val : Int) = some (1 + (dl s.val : Int), (dk s.val : Int), 0) := by decide +kernel
  exact at_rounds (sym_DistOf.mono _) hk (key ⟨s, h⟩)
theorem wakes_is (k : Nat) (hk : 80 ≤ k) : wherrylaw05_wakes.f k = some true := at_rounds (wherrylaw05_wakes.mono) hk (by decide +kernel)
theorem tmod_u64 (a m : Int) (h0 : 0 < m) (h1 : m < 1000000) : ∃ n : Nat, (n : Int) < m ∧ wrap64 (Int.tmod (IntKind.u64.wrap a) m) = n := by
  rw [wrap_u64]
  have hw : 0 ≤ a % 18446744073709551616 := Int.emod_nonneg _ (by decide)
  generalize a % 18446744073709551616 = b at hw
  have h2 : 0 ≤ b % m := Int.emod_nonneg _ (by omega)
  have h3 : b % m < m := Int.emod_lt_of_pos _ h0
  refine ⟨(b % m).toNat, by omega, ?_⟩
  rw [Int.tmod_eq_emod_of_nonneg hw, Int.toNat_of_nonneg h2, wrap64_in (by omega) (by omega)]

theorem j2_is (k m d : Nat) (hk : 81 ≤ k) (h0 : 1 ≤ m) (h1 : m ≤ 32768) (hd : d < 30) (a : dl d ≤ m - 1) (b : m - 1 < dl (d + 1)) : wherrylaw05_SymOnce.j2 k (m : Int) (d : Int) = some true := by
  obtain ⟨k, rfl⟩ : ∃ m, k = m + 1 := ⟨k - 1, by omega⟩
  simp only [wherrylaw05_SymOnce.j2]
  by_cases h : (m : Int) < 32768
  · rw [if_pos h, wrap64_in (by omega) (by omega)]
    obtain ⟨s, hs, p, q, e⟩ := dist_is (m + 1) k (by omega) (by omega) (by omega)
    rw [show (m : Int) + 1 = ((m + 1 : Nat) : Int) from by omega, e]
    have := step_of dl dk 30 (fun s h => dl_succ ⟨s, h⟩) (m - 1) d s hd hs a b (by omega) (by omega)
    simp only [Option.bind_some]
    rw [if_pos trivial, if_neg (by omega), wrap64_in (by omega) (by omega), if_neg (by omega), wakes_is k (by omega)]
    rfl
  · rw [if_neg h, wakes_is k (by omega)]
    rfl

theorem j1_is (k n m d s : Nat) (hk : 82 ≤ k) (hn0 : 3 ≤ n) (hn1 : n ≤ 258) (hs : (n < 258 ∧ s < 28 ∧ ll s ≤ n - 3 ∧ n - 3 < ll (s + 1)) ∨ n = 258) (h0 : 1 ≤ m) (h1 : m ≤ 32768) (hd : d < 30) (a : dl d ≤ m - 1) (b : m - 1 < dl (d + 1)) : wherrylaw05_SymOnce.j1 k (n : Int) (m : Int) (257 + (s : Int)) (d : Int) false = some true := by
  obtain ⟨k, rfl⟩ : ∃ m, k = m + 1 := ⟨k - 1, by omega⟩
  simp only [wherrylaw05_SymOnce.j1]
  rw [if_neg (by decide)]
  have hj := j2_is k m d (by omega) h0 h1 hd a b
  by_cases h : (n : Int) < 258
  · have hs' : s < 28 ∧ ll s ≤ n - 3 ∧ n - 3 < ll (s + 1) := by omega
    rw [if_pos h, wrap64_in (by omega) (by omega)]
    by_cases h2 : n = 257
    · subst h2
      rw [show ((257 : Nat) : Int) + 1 = 258 from rfl, len_258 k (by omega)]
      simp only [Option.bind_some]
      have : s = 27 := by
        obtain ⟨p, q, r⟩ := hs'
        have key : ∀ s : Fin 28, 254 < ll (s.val + 1) → s.val = 27 := by decide
        exact key ⟨s, p⟩ r
      subst this
      rw [if_pos trivial, if_neg (by decide), wrap64_in (by decide) (by decide), if_neg (by decide), hj]
    · obtain ⟨s2, hs2, p, q, e⟩ := len_is (n + 1) k (by omega) (by omega) (by omega)
      rw [show (n : Int) + 1 = ((n + 1 : Nat) : Int) from by omega, e]
      have := step_of ll lk 28 (fun s h => ll_succ ⟨s, h⟩) (n - 3) s s2 hs'.1 hs2 hs'.2.1 hs'.2.2 (by omega) (by omega)
      simp only [Option.bind_some]
      rw [if_pos trivial, if_neg (by omega), wrap64_in (by omega) (by omega), if_neg (by omega), hj]
  · rw [if_neg h, hj]

theorem j0_is (k n m s : Nat) (hk : 83 ≤ k) (hn0 : 3 ≤ n) (hn1 : n ≤ 258) (hs : (n < 258 ∧ s < 28 ∧ ll s ≤ n - 3 ∧ n - 3 < ll (s + 1)) ∨ n = 258) (h0 : 1 ≤ m) (h1 : m ≤ 32768) : wherrylaw05_SymOnce.j0 k (n : Int) (m : Int) (257 + (s : Int)) false = some true := by
  obtain ⟨k, rfl⟩ : ∃ m, k = m + 1 := ⟨k - 1, by omega⟩
  simp only [wherrylaw05_SymOnce.j0]
  rw [if_neg (by decide)]
  obtain ⟨d, hd, p, q, e⟩ := dist_is m k (by omega) (by omega) (by omega)
  rw [e]
  simp only [Option.bind_some]
  rw [distOf_is d k hd (by omega)]
  simp only [Option.bind_some]
  obtain ⟨e1, e2⟩ := shl_d ⟨d, hd⟩
  have e3 := dl_succ ⟨d, hd⟩
  simp only at e1 e2 e3
  rw [if_pos trivial, if_pos trivial, if_neg (by omega), if_neg (by omega), if_pos trivial, if_neg (by omega), if_pos e2, e1, if_neg (by omega), wrap64_in (by omega) (by omega)]
  rw [show ((1 + (dl d : Int) + ((m : Int) - 1 - (dl d : Int)) != (m : Int))) = false from by rw [bne_eq_false_iff_eq]; omega]
  exact j1_is k n m d s (by omega) hn0 hn1 hs h0 h1 hd p q

theorem SymOnce : wherrylaw05_SymOnce.Pure := by
  intro a0 a1 _ _
  obtain ⟨x, hx, ex⟩ := tmod_u64 a0 256 (by decide) (by decide)
  obtain ⟨y, hy, ey⟩ := tmod_u64 a1 32768 (by decide) (by decide)
  refine ⟨100, ?_⟩
  unfold wherrylaw05_SymOnce.f
  rw [ex, ey, wrap64_in (a := 3 + (x : Int)) (by omega) (by omega), wrap64_in (a := 1 + (y : Int)) (by omega) (by omega), show 3 + (x : Int) = ((3 + x : Nat) : Int) from by omega, show 1 + (y : Int) = ((1 + y : Nat) : Int) from by omega]
  by_cases h : x = 255
  · subst h
    rw [show ((3 + 255 : Nat) : Int) = 258 from rfl, len_258 100 (by decide)]
    simp only [Option.bind_some]
    rw [lenOf_258 100 (by decide)]
    simp only [Option.bind_some]
    rw [if_pos trivial, if_pos trivial, if_neg (by decide), if_neg (by decide), if_pos trivial, if_neg (by decide), if_pos (by decide), if_neg (by decide)]
    rw [show (wrap64 (258 + 0) != 258) = false from by decide +kernel]
    exact j0_is 100 258 (1 + y) 28 (by decide) (by decide) (by decide) (.inr rfl) (by omega) (by omega)
  · obtain ⟨s, hs, p, q, e⟩ := len_is (3 + x) 100 (by omega) (by omega) (by decide)
    rw [e]
    simp only [Option.bind_some]
    rw [lenOf_is s 100 hs (by decide)]
    simp only [Option.bind_some]
    obtain ⟨e1, e2⟩ := shl_l ⟨s, hs⟩
    have e3 := ll_succ ⟨s, hs⟩
    simp only at e1 e2 e3
    rw [if_pos trivial, if_pos trivial, if_neg (by omega), if_neg (by omega), if_pos trivial, if_neg (by omega), if_pos e2, e1, if_neg (by omega), wrap64_in (by omega) (by omega)]
    rw [show ((3 + (ll s : Int) + (((3 + x : Nat) : Int) - 3 - (ll s : Int)) != ((3 + x : Nat) : Int))) = false from by rw [bne_eq_false_iff_eq]; omega]
    exact j0_is 100 (3 + x) (1 + y) s (by decide) (by omega) (by omega) (.inl ⟨by omega, hs, p, q⟩) (by omega) (by omega)
end Go.Proofs.Ytfghmdjlhfclaaa.Pure
