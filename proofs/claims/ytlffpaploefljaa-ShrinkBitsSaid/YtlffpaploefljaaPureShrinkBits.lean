/- ShrinkBits holds: a fixed block is as long as its symbols' codes and their bits more need, reckoned from the weights of the text's tokens; at every list of bytes. No condition. -/
import Derived.Test.YtlffpaploefljaaShrinkSum
import Derived.Test.YtlffpaploefljaaPx0
import Derived.Test.YtlffpaploefljaaPx1
import Derived.Test.YtlffpaploefljaaPx29
import Derived.Test.YtlffpaploefljaaPx54
import Derived.Test.YtlffpaploefljaaPx63
namespace Go.Proofs.Ytlffpaploefljaa.Pure
open Go.RowKit Go.Proofs.Ytlffpaploefljaa.P Go.Proofs.Ytlffpaploefljaa.Glue Go.Proofs.YtlffpaploefljaaW.PrintWords Go.Proofs.YtlffpaploefljaaW.PrintLast Go.Proofs.YtlffpaploefljaaW.PrintMore
open WP (Row Bytes at_ val wN wX Wrote)
open Go.Proofs.Ytlffpaploefljaa.Tok (OkT OkL sizeL sizeT refTokens_is refcheck_loop rdT_mid)
set_option linter.unusedVariables false
set_option linter.unusedSimpArgs false

theorem bits_fixed (k : Nat) (hk : 700 ≤ k) : wherryref01_Fixed.f k = some (fixL, fixD) := at_rounds wherryref01_Fixed.mono hk (by decide +kernel)
theorem fixLt_bad : (fixL.take 286).any badLen = false := by decide +kernel
theorem fixDt_bad : (fixD.take 30).any badLen = false := by decide +kernel
theorem bits_start : costOf ((List.replicate 286 (0 : Int)).set (256 : Int).toNat 1) (fixL.take 286) = 7 := by decide +kernel
theorem cost_some' {w l : List Int} (h : w.length = l.length) (hw : weighs w = true) (hl : l.any badLen = false) : tree_Cost.f w l = some (costOf w l, 0) := by
  unfold tree_Cost.f
  rw [if_neg (by omega), if_pos ⟨hw, hl⟩]
theorem moreB_le {t : S53} (h : Fine t) : 0 ≤ moreB t ∧ moreB t ≤ 18 := by
  unfold moreB
  by_cases h0 : t.f1 = 0
  · rw [if_pos h0]
    omega
  · rw [if_neg h0]
    have hp := piece_fine h h0
    have l1 := (lenOf_is hp.1 hp.2.1).1.le
    have d1 := (distOf_is hp.2.2.1 (show t.f2 ≤ 32768 by omega)).1.le
    omega
theorem bits_loop {b : List Int} (hb : Bytes b) (hl : b.length ≤ 1200) (m : Made b) (l : List S53) (hll : l.length ≤ 5000) (tot : Int) (htot : tot = ((wN (knownI (T b)) : Nat) : Int)) : ∀ (us pre : List S53) (n : Int) (k : Nat), l = pre ++ us → (∀ t ∈ us, Fine t) → n + sumM us = tot → 0 ≤ n → n + 20 * (us.length : Int) ≤ 1000000 → 1000 + us.length ≤ k →
    wherrylaw06_ShrinkBits.l0 k b l n (pre.length : Int) = some true
  | [], pre, n, k, e, _, hn, hn0, _, hk => by
    obtain ⟨k, rfl⟩ : ∃ m, k = m + 1 := ⟨k - 1, by omega⟩
    simp only [sumM, Int.add_zero] at hn
    have hlen := m.wkn.1.len
    rw [wherrylaw06_ShrinkBits.l0, if_neg (by rw [e]; simp), fixed_f hb (by omega) m, Option.bind_some]
    simp only
    have hN : ∃ N : Nat, n = (N : Int) ∧ N = wN (knownI (T b)) := ⟨wN (knownI (T b)), by omega, rfl⟩
    obtain ⟨N, rfl, hNe⟩ := hN
    rw [← hNe] at hlen
    obtain ⟨_, _, _, hN3⟩ := known_is (T b) (T_ok b hb (by omega)).2.2.2.1 (T_ok b hb (by omega)).2.2.2.2
    rw [← hNe] at hN3
    rw [if_pos trivial, wrap64_in (a := (N : Int) + 7) (by omega) (by omega), show (N : Int) + 7 = ((N + 7 : Nat) : Int) from by omega, show (8 : Int) = ((8 : Nat) : Int) from rfl, tdiv_nat, wrap64_in (by omega) (by omega), if_pos (by omega)]
    rfl
  | u :: us, pre, n, k, e, hf, hn, hn0, hn1, hk => by
    simp only [List.length_cons] at hk hn1
    obtain ⟨k, rfl⟩ : ∃ m, k = m + 1 := ⟨k - 1, by omega⟩
    have hlen : pre.length < l.length := by rw [e]; simp
    have hrd : rd_T53 l (pre.length : Int) = u := by rw [e]; exact rdT_mid pre us u
    have hu := hf u List.mem_cons_self
    have hm := moreB_le hu
    have ih := fun n' h1 h2 h3 => bits_loop hb hl m l hll tot htot us (pre ++ [u]) n' k (by rw [e]; simp) (fun t ht => hf t (List.mem_cons_of_mem _ ht)) h1 h2 h3 (by omega)
    rw [List.length_append, List.length_singleton] at ih
    simp only [sumM] at hn
    rw [wherrylaw06_ShrinkBits.l0, if_pos (by omega), if_pos (by omega), hrd, wrap64_in (a := (pre.length : Int) + 1) (by omega) (by omega), show (pre.length : Int) + 1 = ((pre.length + 1 : Nat) : Int) from by omega]
    by_cases h0 : u.f1 = 0
    · rw [if_neg (by omega)]
      unfold moreB at hn hm
      rw [if_pos h0] at hn hm
      exact ih n (by omega) hn0 (by omega)
    · have hp := piece_fine hu h0
      unfold moreB at hn hm
      rw [if_neg h0] at hn hm
      rw [if_pos (by omega), ref_len hp.1 hp.2.1 k (by omega), Option.bind_some, ref_dist hp.2.2.1 (by omega) k (by omega), Option.bind_some]
      simp only
      rw [wrap64_in (a := n + _) (by omega) (by omega), wrap64_in (by omega) (by omega)]
      exact ih _ (by omega) (by omega) (by omega)
theorem ShrinkBits : wherrylaw06_ShrinkBits.Pure := by
  intro l0 h1 _ h3
  refine ⟨800000, ?_⟩
  unfold wherrylaw06_ShrinkBits.f
  by_cases hlen : (l0.length : Int) > 1200
  · rw [if_pos hlen]
  rw [if_neg hlen]
  have hb : WP.Bytes l0 := bytes_of h3
  have h4 : l0.length ≤ 4096 := by omega
  obtain ⟨m⟩ := made_all l0 hb h4
  obtain ⟨o1, o2, o3, o4, o5⟩ := T_ok l0 hb h4
  have hT : (T l0).length ≤ 4096 := o4
  have eT := refTokens_is l0 h4 800000 (by omega)
  have hck : wherryref01_CheckToks.f 800000 (T l0) = some 0 := by
    unfold wherryref01_CheckToks.f
    have := refcheck_loop (T l0) (by omega) (T l0) [] 0 800000 rfl o1 (by omega) (by omega)
    rw [if_neg (by omega)] at this
    exact this
  obtain ⟨a, b, q1, q2, q3, q4, q5, q6⟩ := rwts_loop (T l0) (by omega) (T l0) [] 1 ((List.replicate 286 (0 : Int)).set (256 : Int).toNat 1) (List.replicate 30 0) rfl o5 (by rw [List.length_set, List.length_replicate]) List.length_replicate (by
    have := inc_small (i := 256) (zeros_small 286 0) (by omega)
    have e : inc (List.replicate 286 0) 256 = (List.replicate 286 (0 : Int)).set (256 : Int).toNat 1 := by decide +kernel
    rw [e] at this
    exact this) (zeros_small 30 1) (by omega)
  rw [bits_start, cost_zeros] at q5
  have hw : wherryref01_Weights.f 800000 (T l0) = some (a, b, 0) := by
    unfold wherryref01_Weights.f
    rw [hck, Option.bind_some, if_pos rfl]
    unfold wherryref01_weights.f
    rw [if_pos (by omega), Option.bind_some, if_pos (by omega), if_pos (by rw [List.length_replicate]; omega)]
    have := q6 800000 (by omega)
    rw [show ((([] : List S53).length : Nat) : Int) = 0 from rfl] at this
    rw [this, Option.bind_some]
  have c1 := cost_some' (w := a) (l := fixL.take 286) (by rw [q1, fixLt_len]) (small_weighs q3 (by omega) (by omega)) fixLt_bad
  have c2 := cost_some' (w := b) (l := fixD.take 30) (by rw [q2, fixDt_len]) (small_weighs q4 (by omega) (by omega)) fixDt_bad
  have hkb := known_bits (T l0) o5
  rw [eT, Option.bind_some]
  simp only
  rw [show toks l0 l0.length 0 = T l0 from rfl, hw, Option.bind_some]
  simp only
  rw [bits_fixed 800000 (by omega), Option.bind_some]
  simp only
  rw [if_pos trivial, show ((0 : Int) != 0) = false from rfl, show (800000 : Nat) = 799999 + 1 from rfl, wherrylaw06_ShrinkBits.j0, if_neg Bool.false_ne_true, if_pos (by rw [fixL_len]; omega), c1, Option.bind_some, if_pos (by rw [fixD_len]; omega), c2, Option.bind_some]
  simp only
  rw [if_pos trivial, show ((0 : Int) != 0) = false from rfl, show (799999 : Nat) = 799998 + 1 from rfl, wherrylaw06_ShrinkBits.j1, if_neg Bool.false_ne_true]
  have hsB : 0 ≤ sumB (T l0) ∧ 0 ≤ sumM (T l0) := by
    have hB : ∀ ts : List S53, (∀ t ∈ ts, Fine t) → 0 ≤ sumB ts ∧ 0 ≤ sumM ts := by
      intro ts
      induction ts with
      | nil => intro _; exact ⟨Int.le_refl _, Int.le_refl _⟩
      | cons t ts ih =>
        intro h
        have h1 := ih (fun u hu => h u (List.mem_cons_of_mem _ hu))
        have h2 := moreB_le (h t List.mem_cons_self)
        have h3 : 0 ≤ tokB t := by
          unfold tokB
          split
          · exact fixL_nn _
          · have := fixL_nn (lenOf t.f1).1
            have := fixD_nn (distOf t.f2).1
            omega
        simp only [sumB, sumM]
        omega
    exact hB _ o5
  have hN3 : wN (knownI (T l0)) ≤ 300000 := by
    obtain ⟨_, _, _, h⟩ := known_is (T l0) o4 o5
    exact h
  have hca : 0 ≤ costOf a (fixL.take 286) ∧ 0 ≤ costOf b (fixD.take 30) := by
    have nn : ∀ (w l : List Int), (∀ x ∈ w, 0 ≤ x) → (∀ x ∈ l, 0 ≤ x) → 0 ≤ costOf w l := by
      intro w
      induction w with
      | nil => intro l _ _; simp [costOf]
      | cons x w ih =>
        intro l hw hl
        cases l with
        | nil => simp [costOf]
        | cons y l =>
          simp only [costOf]
          have := Int.mul_nonneg (hw x List.mem_cons_self) (hl y List.mem_cons_self)
          have := ih l (fun z hz => hw z (List.mem_cons_of_mem _ hz)) (fun z hz => hl z (List.mem_cons_of_mem _ hz))
          omega
    have sm : ∀ (w : List Int) (B : Nat), Small w B → ∀ x ∈ w, 0 ≤ x := by
      intro w B h x hx
      obtain ⟨i, hi, rfl⟩ := List.mem_iff_getElem.1 hx
      have := (h i).1
      rw [rd_nat, List.getD_eq_getElem?_getD, List.getElem?_eq_getElem hi] at this
      exact this
    exact ⟨nn _ _ (sm a _ q3) (by decide +kernel), nn _ _ (sm b _ q4) (by decide +kernel)⟩
  rw [wrap64_in (a := 3 + _) (by omega) (by omega), wrap64_in (by omega) (by omega)]
  exact bits_loop hb (by omega) m (T l0) (by omega) _ rfl (T l0) [] _ 799998 rfl o5 (by omega) (by omega) (by omega) (by omega)
end Go.Proofs.Ytlffpaploefljaa.Pure
