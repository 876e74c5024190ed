/- A fixed block's bits, reckoned from the weights of the text's tokens; used by the claims of this seat. -/
import Derived.Test.YtlffpaploefljaaShrinkW
import Derived.Test.YtlffpaploefljaaRefTok
import Derived.Test.YtlffpaploefljaaPx0
import Derived.Test.YtlffpaploefljaaPx29
import Derived.Test.YtlffpaploefljaaPx54
import Derived.Test.YtlffpaploefljaaPx63
namespace Go.Proofs.Ytlffpaploefljaa.Glue
open Go.RowKit Go.Proofs.Ytlffpaploefljaa.P Go.Proofs.YtlffpaploefljaaW.PrintWords Go.Proofs.YtlffpaploefljaaW.PrintLast Go.Proofs.YtlffpaploefljaaW.PrintMore
open WP (Row Bytes at_ val wN wX Wrote)
open Go.Proofs.Ytlffpaploefljaa.Tok (LenSym DistSym OkT OkL sizeL sizeT sizeL_ge exT len_in dist_in rdT_mid)
set_option linter.unusedVariables false
set_option linter.unusedSimpArgs false
/-! ### a fixed block's bits, reckoned from the weights -/
theorem costOf_set : ∀ (a l : List Int) (i : Nat) (x : Int), i < a.length → i < l.length → costOf (a.set i x) l = costOf a l + (x - a.getD i 0) * l.getD i 0
  | [], _, i, x, h, _ => by simp at h
  | _ :: _, [], i, x, _, h => by simp at h
  | y :: a, z :: l, 0, x, _, _ => by
    simp only [List.set_cons_zero, costOf, List.getD_cons_zero]
    rw [Int.sub_mul]
    omega
  | y :: a, z :: l, i + 1, x, h, h' => by
    simp only [List.set_cons_succ, costOf, List.getD_cons_succ]
    rw [costOf_set a l i x (by simpa using h) (by simpa using h')]
    omega
theorem cost_inc {a l : List Int} {B i : Nat} (h : Small a B) (hB : B < 100000) (hi : i < a.length) (hl : i < l.length) : costOf (inc a i) l = costOf a l + l.getD i 0 := by
  have h1 := h i
  unfold inc
  rw [wrap64_in (by omega) (by omega), costOf_set _ _ _ _ hi hl, rd_nat, show a.getD i 0 + 1 - a.getD i 0 = 1 from by omega, Int.one_mul]
theorem cost_zeros : ∀ (n : Nat) (l : List Int), costOf (List.replicate n 0) l = 0
  | 0, _ => rfl
  | n + 1, [] => rfl
  | n + 1, x :: l => by
    rw [List.replicate_succ, costOf, cost_zeros n l]
    omega
/-- The bits of a token's symbols; the bits more. -/
def tokB (t : S53) : Int := if t.f1 = 0 then fixL.getD t.f0.toNat 0 else fixL.getD (lenOf t.f1).1 0 + fixD.getD (distOf t.f2).1 0
def moreB (t : S53) : Int := if t.f1 = 0 then 0 else (((lenOf t.f1).2.1 + (distOf t.f2).2.1 : Nat) : Int)
def sumB : List S53 → Int
  | [] => 0
  | t :: l => tokB t + sumB l
def sumM : List S53 → Int
  | [] => 0
  | t :: l => moreB t + sumM l
theorem fixL_nn (j : Nat) : 0 ≤ fixL.getD j 0 := by
  by_cases h : j < 288
  · have := fixL_pos ⟨j, h⟩
    simp only at this
    omega
  · rw [List.getD_eq_getElem?_getD, List.getElem?_eq_none (by rw [fixL_len]; omega)]
    decide
theorem fixD_nn (j : Nat) : 0 ≤ fixD.getD j 0 := by
  by_cases h : j < 32
  · have := fixD_pos ⟨j, h⟩
    simp only at this
    omega
  · rw [List.getD_eq_getElem?_getD, List.getElem?_eq_none (by rw [fixD_len]; omega)]
    decide
theorem tokI_bits {t : S53} (h : Fine t) : ((wN (tokI fixL fixD t) : Nat) : Int) = tokB t + moreB t := by
  unfold tokI tokB moreB codeI
  by_cases h0 : t.f1 = 0
  · rw [if_pos h0, if_pos h0, if_pos h0]
    have := fixL_nn t.f0.toNat
    simp only [wN]
    omega
  · rw [if_neg h0, if_neg h0, if_neg h0]
    have := fixL_nn (lenOf t.f1).1
    have := fixD_nn (distOf t.f2).1
    simp only [wN]
    omega
theorem toksI_bits : ∀ l : List S53, (∀ t ∈ l, Fine t) → ((wN (l.flatMap (tokI fixL fixD)) : Nat) : Int) = sumB l + sumM l
  | [], _ => rfl
  | t :: l, h => by
    have h1 := tokI_bits (h t List.mem_cons_self)
    have h2 := toksI_bits l (fun u hu => h u (List.mem_cons_of_mem _ hu))
    rw [List.flatMap_cons, WP.wN_append]
    simp only [sumB, sumM]
    omega
theorem known_bits (l : List S53) (h : ∀ t ∈ l, Fine t) : ((wN (knownI l) : Nat) : Int) = 10 + sumB l + sumM l := by
  have h1 := toksI_bits l h
  have h2 : wN [codeI fixL 256] = 7 := by decide +kernel
  unfold knownI bodyI
  rw [WP.wN_append, WP.wN_append, h2]
  have h3 : wN [((1 : Nat), (1 : Nat)), (1, 2)] = 3 := rfl
  rw [h3]
  omega
theorem fixLt (j : Nat) (h : j < 286) : (fixL.take 286).getD j 0 = fixL.getD j 0 := take_getD fixL h
theorem fixDt (j : Nat) (h : j < 30) : (fixD.take 30).getD j 0 = fixD.getD j 0 := take_getD fixD h
theorem fixLt_len : (fixL.take 286).length = 286 := by rw [List.length_take, fixL_len]; rfl
theorem fixDt_len : (fixD.take 30).length = 30 := by rw [List.length_take, fixD_len]; rfl
theorem piece_fine {t : S53} (h : Fine t) (h0 : t.f1 ≠ 0) : 3 ≤ t.f1 ∧ t.f1 ≤ 258 ∧ 1 ≤ t.f2 ∧ t.f2 ≤ 2048 := by
  rcases h.2.2 with h | h
  · exact absurd h.1 h0
  · exact h
theorem ref_len {n : Int} (h0 : 3 ≤ n) (h1 : n ≤ 258) (k : Nat) (hk : 400 ≤ k) : wherryref01_Len.f k n = some (((lenOf n).1 : Int), ((lenOf n).2.1 : Int), ((lenOf n).2.2 : Int), 0) := by
  obtain ⟨m, rfl⟩ := Int.eq_ofNat_of_zero_le (show 0 ≤ n by omega)
  obtain ⟨s, x, v, _, _, h⟩ := len_in m (by omega) (by omega)
  have e := (lenOf_is h0 h1).2
  rw [(h 400 (by decide)).1] at e
  rw [(h k (by omega)).2]
  exact e
theorem ref_dist {n : Int} (h0 : 1 ≤ n) (h1 : n ≤ 32768) (k : Nat) (hk : 400 ≤ k) : wherryref01_Dist.f k n = some (((distOf n).1 : Int), ((distOf n).2.1 : Int), ((distOf n).2.2 : Int), 0) := by
  obtain ⟨m, rfl⟩ := Int.eq_ofNat_of_zero_le (show 0 ≤ n by omega)
  obtain ⟨s, x, v, _, h⟩ := dist_in m (by omega) (by omega)
  have e := (distOf_is h0 h1).2
  rw [(h 400 (by decide)).1] at e
  rw [(h k (by omega)).2]
  exact e
theorem rwts_loop (l : List S53) (hl : l.length ≤ 5000) : ∀ (us pre : List S53) (B : Nat) (a b : List Int), l = pre ++ us → (∀ t ∈ us, Fine t) → a.length = 286 → b.length = 30 → Small a B → Small b B → B + us.length ≤ 50000 →
    ∃ a' b' : List Int, a'.length = 286 ∧ b'.length = 30 ∧ Small a' (B + us.length) ∧ Small b' (B + us.length) ∧ costOf a' (fixL.take 286) + costOf b' (fixD.take 30) = costOf a (fixL.take 286) + costOf b (fixD.take 30) + sumB us ∧
      ∀ k, 500 + us.length ≤ k → wherryref01_weights.l0 k l a b (pre.length : Int) = some (a', b')
  | [], pre, B, a, b, e, _, la, lb, sa, sb, _ => by
    refine ⟨a, b, la, lb, sa, sb, by simp only [sumB]; omega, fun k hk => ?_⟩
    obtain ⟨k, rfl⟩ : ∃ m, k = m + 1 := ⟨k - 1, by omega⟩
    rw [wherryref01_weights.l0, if_neg (by rw [e]; simp)]
  | u :: us, pre, B, a, b, e, hf, la, lb, sa, sb, hB => by
    have hlen : pre.length < l.length := by rw [e]; simp
    have hrd : rd_T53 l (pre.length : Int) = u := by rw [e]; exact rdT_mid pre us u
    have hu := hf u List.mem_cons_self
    have hf' : ∀ t ∈ us, Fine t := fun t ht => hf t (List.mem_cons_of_mem _ ht)
    simp only [List.length_cons] at hB
    by_cases h0 : u.f1 = 0
    · obtain ⟨x, hx⟩ := Int.eq_ofNat_of_zero_le hu.1
      have hx2 : x < 256 := by have := hu.2.1; omega
      obtain ⟨a', b', q1, q2, q3, q4, q5, q8⟩ := rwts_loop l hl us (pre ++ [u]) (B + 1) (inc a x) b (by rw [e]; simp) hf' (by rw [inc_len]; exact la) lb (inc_small sa (by omega)) (small_mono sb (by omega)) (by omega)
      rw [List.length_append, List.length_singleton] at q8
      have hc := cost_inc (l := fixL.take 286) sa (by omega) (show x < a.length by omega) (by rw [fixLt_len]; omega)
      rw [fixLt x (by omega)] at hc
      refine ⟨a', b', q1, q2, small_mono q3 (by simp; omega), small_mono q4 (by simp; omega), ?_, fun k hk => ?_⟩
      · simp only [sumB, tokB]
        rw [if_pos h0, hx, Int.toNat_natCast]
        omega
      · simp only [List.length_cons] at hk
        obtain ⟨k, rfl⟩ : ∃ m, k = m + 1 := ⟨k - 1, by omega⟩
        rw [wherryref01_weights.l0, if_pos (by omega), if_pos (by omega), hrd, if_pos h0, hx, wrap64_in (a := (x : Int)) (by omega) (by omega), if_pos (by omega), if_pos (by omega), wrap64_in (a := (pre.length : Int) + 1) (by omega) (by omega), Int.toNat_natCast]
        exact q8 k (by omega)
    · have hp := piece_fine hu h0
      obtain ⟨l1, l2⟩ := lenOf_is hp.1 hp.2.1
      obtain ⟨d1, d2⟩ := distOf_is hp.2.2.1 (show u.f2 ≤ 32768 by omega)
      have l3 := l1.le
      have d3 := d1.le
      obtain ⟨a', b', q1, q2, q3, q4, q5, q8⟩ := rwts_loop l hl us (pre ++ [u]) (B + 1) (inc a (lenOf u.f1).1) (inc b (distOf u.f2).1) (by rw [e]; simp) hf' (by rw [inc_len]; exact la) (by rw [inc_len]; exact lb) (inc_small sa (by omega)) (inc_small sb (by omega)) (by omega)
      rw [List.length_append, List.length_singleton] at q8
      have hc := cost_inc (l := fixL.take 286) sa (by omega) (show (lenOf u.f1).1 < a.length by omega) (by rw [fixLt_len]; omega)
      rw [fixLt _ (by omega)] at hc
      have hd := cost_inc (l := fixD.take 30) sb (by omega) (show (distOf u.f2).1 < b.length by omega) (by rw [fixDt_len]; omega)
      rw [fixDt _ (by omega)] at hd
      refine ⟨a', b', q1, q2, small_mono q3 (by simp; omega), small_mono q4 (by simp; omega), ?_, fun k hk => ?_⟩
      · simp only [sumB, tokB]
        rw [if_neg h0]
        omega
      · simp only [List.length_cons] at hk
        obtain ⟨k, rfl⟩ : ∃ m, k = m + 1 := ⟨k - 1, by omega⟩
        rw [wherryref01_weights.l0, if_pos (by omega), if_pos (by omega), hrd, if_neg h0, ref_len hp.1 hp.2.1 k (by omega), Option.bind_some, ref_dist hp.2.2.1 (by omega) k (by omega), Option.bind_some]
        dsimp only
        rw [if_pos (by omega), if_pos (by omega), if_pos (by omega), if_pos (by omega), wrap64_in (a := (pre.length : Int) + 1) (by omega) (by omega), Int.toNat_natCast, Int.toNat_natCast]
        exact q8 k (by omega)
end Go.Proofs.Ytlffpaploefljaa.Glue
