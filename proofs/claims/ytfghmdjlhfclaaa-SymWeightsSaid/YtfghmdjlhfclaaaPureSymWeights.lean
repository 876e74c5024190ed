/- SymWeights holds: the weights of a text's tokens are as many as there are tokens and the end, those of distances as many as pieces; at all lists of bytes. No condition. -/
import Derived.Test.YtfghmdjlhfclaaaSymToks
import Derived.Test.YtfghmdjlhfclaaaSymWts
import Derived.Test.YtfghmdjlhfclaaaPx0
import Derived.Test.YtfghmdjlhfclaaaPx1
import Derived.Test.YtfghmdjlhfclaaaPx4
namespace Go.Proofs.Ytfghmdjlhfclaaa.Pure
open Go.RowKit Go.Proofs.Ytfghmdjlhfclaaa.P Go.Proofs.YtfghmdjlhfclaaaW.PrintWords Go.Proofs.YtfghmdjlhfclaaaW.PrintLast Go.Proofs.YtfghmdjlhfclaaaW.PrintMore
set_option linter.unusedVariables false
set_option linter.unusedSimpArgs false
theorem take_sum (a : List Int) (i : Nat) (h : i < a.length) : (a.take (i + 1)).sum = (a.take i).sum + rd a (i : Int) := by
  rw [rd_nat, List.take_add_one, List.sum_append, List.getD_eq_getElem?_getD, List.getElem?_eq_getElem h]
  simp
theorem take_small (a : List Int) (B : Nat) (h : Small a B) : ∀ i, i ≤ a.length → 0 ≤ (a.take i).sum ∧ (a.take i).sum ≤ (i : Int) * (B : Int)
  | 0, _ => by simp
  | i + 1, hi => by
    have ih := take_small a B h i (by omega)
    have hx := h i
    rw [take_sum a i (by omega)]
    have e : ((i + 1 : Nat) : Int) * (B : Int) = (i : Int) * (B : Int) + (B : Int) := by
      rw [Int.natCast_add, Int.add_mul, show ((1 : Nat) : Int) * (B : Int) = (B : Int) from Int.one_mul _]
    omega
theorem sw_end (ts : List S39) (a : List Int) (hts : ts.length ≤ 2000) (hok : ∀ t ∈ ts, 0 ≤ t.f1) (n m : Int) (hn : n = (ts.length : Int) + 1) (hm : m = (piecesN ts : Int)) (ha : a.length = 286) (h256 : rd a 256 = 1) : ∀ (us pre : List S39) (c k : Nat), ts = pre ++ us → c + piecesN us = piecesN ts → c ≤ pre.length → 1000 + us.length ≤ k →
    wherrylaw05_SymWeights.l2 k ts a n m (c : Int) (pre.length : Int) = some true
  | [], pre, c, k, e, hc, hcl, hk => by
    obtain ⟨k, rfl⟩ : ∃ j, k = j + 1 := ⟨k - 1, by omega⟩
    have hw : wherrylaw05_wakes.f k = some true := at_rounds wherrylaw05_wakes.mono (k := 100) (k' := k) (by omega) (by decide +kernel)
    rw [wherrylaw05_SymWeights.l2, if_neg (by rw [e]; simp), wi (by omega) (by omega), if_pos hn, if_pos (by simp only [piecesN] at hc; omega), if_pos (by omega), if_pos h256, hw, Option.bind_some]
  | u :: us, pre, c, k, e, hc, hcl, hk => by
    simp only [List.length_cons] at hk
    obtain ⟨k, rfl⟩ : ∃ j, k = j + 1 := ⟨k - 1, by omega⟩
    have hlen : pre.length < ts.length := by rw [e]; simp
    have hrd : rd_T39 ts (pre.length : Int) = u := by rw [e]; exact rdT_mid pre us u
    have hu := hok u (by rw [e]; simp)
    rw [wherrylaw05_SymWeights.l2, if_pos (by omega), if_pos (by omega), hrd, wi (a := (pre.length : Int) + 1) (by omega) (by omega)]
    simp only [piecesN] at hc
    have ih := fun c' hc' hl' => sw_end ts a hts hok n m hn hm ha h256 us (pre ++ [u]) c' k (by rw [e]; simp) hc' hl' (by omega)
    rw [List.length_append, List.length_singleton] at ih
    by_cases h0 : u.f1 = 0
    · rw [if_pos h0] at hc
      rw [if_neg (by omega)]
      exact ih c (by omega) (by omega)
    · rw [if_neg h0] at hc
      rw [if_pos (by omega), wi (by omega) (by omega)]
      exact ih (c + 1) (by omega) (by omega)
theorem sw_mid (ts : List S39) (a b : List Int) (hts : ts.length ≤ 2000) (hok : ∀ t ∈ ts, 0 ≤ t.f1) (n : Int) (hn : n = (ts.length : Int) + 1) (hm : b.sum = (piecesN ts : Int)) (ha : a.length = 286) (hb : b.length = 30) (h256 : rd a 256 = 1) (hsb : Small b 2000) : ∀ (f i k : Nat), i + f = 30 → 4000 + f ≤ k →
    wherrylaw05_SymWeights.l1 k ts a b n (b.take i).sum 0 (i : Int) = some true
  | 0, i, k, h, hk => by
    obtain ⟨k, rfl⟩ : ∃ j, k = j + 1 := ⟨k - 1, by omega⟩
    rw [wherrylaw05_SymWeights.l1, if_neg (by omega), List.take_of_length_le (by omega)]
    exact sw_end ts a hts hok n b.sum hn hm ha h256 ts [] 0 k rfl (by omega) (by simp) (by omega)
  | f + 1, i, k, h, hk => by
    obtain ⟨k, rfl⟩ : ∃ j, k = j + 1 := ⟨k - 1, by omega⟩
    have h1 := take_small b 2000 hsb i (by omega)
    have h2 := hsb i
    rw [wherrylaw05_SymWeights.l1, if_pos (by omega), if_pos (by omega), wi (by omega) (by omega), wi (by omega) (by omega), ← take_sum b i (by omega)]
    exact sw_mid ts a b hts hok n hn hm ha hb h256 hsb f (i + 1) k (by omega) (by omega)
theorem sw_top (ts : List S39) (a b : List Int) (hts : ts.length ≤ 2000) (hok : ∀ t ∈ ts, 0 ≤ t.f1) (hn : a.sum = (ts.length : Int) + 1) (hm : b.sum = (piecesN ts : Int)) (ha : a.length = 286) (hb : b.length = 30) (h256 : rd a 256 = 1) (hsa : Small a 2001) (hsb : Small b 2000) : ∀ (f i k : Nat), i + f = 286 → 5000 + f ≤ k →
    wherrylaw05_SymWeights.l0 k ts a b (a.take i).sum 0 0 (i : Int) = some true
  | 0, i, k, h, hk => by
    obtain ⟨k, rfl⟩ : ∃ j, k = j + 1 := ⟨k - 1, by omega⟩
    rw [wherrylaw05_SymWeights.l0, if_neg (by omega), List.take_of_length_le (by omega)]
    exact sw_mid ts a b hts hok a.sum hn hm ha hb h256 hsb 30 0 k rfl (by omega)
  | f + 1, i, k, h, hk => by
    obtain ⟨k, rfl⟩ : ∃ j, k = j + 1 := ⟨k - 1, by omega⟩
    have h1 := take_small a 2001 hsa i (by omega)
    have h2 := hsa i
    rw [wherrylaw05_SymWeights.l0, if_pos (by omega), if_pos (by omega), wi (by omega) (by omega), wi (by omega) (by omega), ← take_sum a i (by omega)]
    exact sw_top ts a b hts hok hn hm ha hb h256 hsa hsb f (i + 1) k (by omega) (by omega)
theorem okl_f1 : ∀ {ts : List S39} {n : Nat}, OkL ts n → ∀ t ∈ ts, 0 ≤ t.f1
  | [], _, _, t, ht => by simp at ht
  | u :: us, n, ⟨h1, h2⟩, t, ht => by
    rcases List.mem_cons.1 ht with rfl | ht
    · rcases h1 with h | h <;> omega
    · exact okl_f1 h2 t ht
theorem SymWeights : wherrylaw05_SymWeights.Pure := by
  intro l _ _ hw
  have H : ∀ k, 800000 ≤ k → wherrylaw05_SymWeights.f (k + 1) l = some true := by
    intro k hk
    unfold wherrylaw05_SymWeights.f
    by_cases h : (l.length : Int) > 1200
    · rw [if_pos h]
    obtain ⟨ts, t1, t2, t3, t4⟩ := refToks_is l (by omega) hw
    have hle := sizeL_ge t1
    obtain ⟨a, b, q1, q2, q3, q4, q5, q6, q7, q8⟩ := wts_is ts (by omega) t1 t3 (by omega)
    have hla : (inc a 256).length = 286 := by rw [inc_len]; exact q1
    have h256 : rd (inc a 256) 256 = 1 := by
      rw [show (256 : Int) = ((256 : Nat) : Int) from rfl, inc, rd_set, if_pos ⟨rfl, by omega⟩, show rd a ((256 : Nat) : Int) = 0 from q7]; exact (wi (by omega) (by omega)).trans rfl
    rw [if_neg h, t4 (k + 1) (by omega), Option.bind_some]
    dsimp only
    rw [(q8 (k + 1) (by omega)).1, Option.bind_some]
    dsimp only
    rw [if_pos rfl, if_pos (by omega), show ((b.length : Int) != 30) = false from by rw [q2]; rfl, wherrylaw05_SymWeights.j0, if_neg (by decide)]
    exact sw_top ts (inc a 256) b (by omega) (okl_f1 t1) (by rw [inc_sum q3 (by omega) (by omega)]; omega) (by omega) hla q2 h256 (small_mono (inc_small q3 (by omega)) (by omega)) (small_mono q4 (by omega)) 286 0 k rfl (by omega)
  exact ⟨800000 + 1, H 800000 (Nat.le_refl _)⟩
end Go.Proofs.Ytfghmdjlhfclaaa.Pure
