/- The reference's lengths and costs are the tree's; used by the claims of this seat. -/
import Derived.Test.YtaoeghdpmmeaiaaTreeRef
import Derived.Test.YtaoeghdpmmeaiaaCanonRef
import Derived.Test.YtaoeghdpmmeaiaaPx3
import Derived.Test.YtaoeghdpmmeaiaaPx4
import Derived.Test.YtaoeghdpmmeaiaaPx10
import Derived.Test.YtaoeghdpmmeaiaaPx12
import Derived.Test.YtaoeghdpmmeaiaaPx13
import Derived.Test.YtaoeghdpmmeaiaaPx15
import Derived.Test.YtaoeghdpmmeaiaaPx16
import Derived.Test.YtaoeghdpmmeaiaaPx25
namespace Go.Proofs.Ytaoeghdpmmeaiaa.Glue
open Go.RowKit Go.Proofs.Ytaoeghdpmmeaiaa.P Go.Proofs.YtaoeghdpmmeaiaaW.PrintWords Go.Proofs.YtaoeghdpmmeaiaaW.PrintLast Go.Proofs.YtaoeghdpmmeaiaaW.PrintMore
set_option linter.unusedVariables false
set_option linter.unusedSimpArgs false

theorem refweights_loop (l : List Int) (hl : l.length ≤ 300) : ∀ (d i k : Nat), i + d = l.length → d < k → wherryref01_rightWeights.l0 k l (i : Int) = some ((l.drop i).all (fun x => decide (0 ≤ x) && decide (x ≤ 1048576))) := by
  intro d
  induction d with
  | zero =>
    intro i k hi hk
    obtain ⟨k, rfl⟩ : ∃ m, k = m + 1 := ⟨k - 1, by omega⟩
    simp only [wherryref01_rightWeights.l0]
    rw [if_neg (by omega), List.drop_of_length_le (by omega)]
    rfl
  | succ d ih =>
    intro i k hi hk
    obtain ⟨k, rfl⟩ : ∃ m, k = m + 1 := ⟨k - 1, by omega⟩
    have hlt : i < l.length := by omega
    have e : rd l (i : Int) = l[i] := by rw [rd_nat]; simp [hlt]
    simp only [wherryref01_rightWeights.l0]
    rw [if_pos (by omega), if_pos (by omega), refin_is, Option.bind_some, e, wrap64_in (by omega) (by omega), show (i : Int) + 1 = ((i + 1 : Nat) : Int) from by omega, ih (i + 1) k (by omega) (by omega), List.drop_eq_getElem_cons hlt, List.all_cons]
    by_cases h : 0 ≤ l[i] ∧ l[i] ≤ 1048576
    · rw [decide_eq_true h, decide_eq_true h.1, decide_eq_true h.2]
      simp
    · rw [decide_eq_false h, if_neg (by decide)]
      have : (decide (0 ≤ l[i]) && decide (l[i] ≤ 1048576)) = false := by
        rw [Bool.and_eq_false_iff, decide_eq_false_iff_not, decide_eq_false_iff_not]
        omega
      rw [this]
      rfl
theorem refweights_is (l : List Int) (k : Nat) (hk : 302 ≤ k) : wherryref01_rightWeights.f k l = some (weighs l) := by
  unfold wherryref01_rightWeights.f weighs
  by_cases h : l.length ≤ 300
  · rw [if_neg (by omega), decide_eq_true h]
    have := refweights_loop l h l.length 0 k (by omega) (by omega)
    rw [List.drop_zero] at this
    rw [Bool.true_and]
    exact this
  · rw [if_pos (by omega), decide_eq_false h]; rfl
theorem ref_pos (ws : List Int) (hl : ws.length ≤ 300) (lim : Int) (x : Option (List Int × Int)) (k : Nat) (hx : wherryref01_Lengths.l0 (k + 1) ws lim (pos ws : Int) (ws.length : Int) = x) : ∀ (d i : Nat), i + d = ws.length → wherryref01_Lengths.l0 (d + (k + 1)) ws lim (pos (ws.take i) : Int) (i : Int) = x := by
  intro d
  induction d with
  | zero =>
    intro i hi
    have e : i = ws.length := by omega
    subst e
    rw [Nat.zero_add, List.take_length]
    exact hx
  | succ d ih =>
    intro i hi
    have hlt : i < ws.length := by omega
    have hs := ih (i + 1) (by omega)
    have hp : pos (ws.take i) ≤ i := by have := pos_le (ws.take i); rw [List.length_take] at this; omega
    rw [show d + 1 + (k + 1) = (d + (k + 1)) + 1 from by omega]
    unfold wherryref01_Lengths.l0
    have e : rd ws (i : Int) = ws[i] := by rw [rd_nat]; simp [hlt]
    have hstep : pos (ws.take (i + 1)) = pos (ws.take i) + if 0 < ws[i] then 1 else 0 := by
      unfold pos
      rw [List.take_succ_eq_append_getElem hlt, List.filter_append, List.length_append]
      by_cases h : 0 < ws[i] <;> simp [List.filter_cons, h]
    rw [if_pos (by omega), if_pos (by omega), e, wrap64_in (a := (pos (ws.take i) : Int) + 1) (by omega) (by omega), wrap64_in (a := (i : Int) + 1) (by omega) (by omega)]
    rw [hstep] at hs
    by_cases h : ws[i] > 0
    · rw [if_pos h]
      rw [if_pos h] at hs
      exact hs
    · rw [if_neg h]
      rw [if_neg h] at hs
      exact hs
/-- The greatest of a row and 0. -/
def topR (l : List Int) : Int := l.foldl mx 0
theorem topR_snoc (l : List Int) (v : Int) : topR (l ++ [v]) = mx (topR l) v := by unfold topR; rw [List.foldl_append]; rfl
theorem topR_le (B : Int) (h0 : 0 ≤ B) (l : List Int) : topR l ≤ B ↔ ∀ v ∈ l, v ≤ B := by
  induction l using snoc_induct with
  | h0 => simp [topR, h0]
  | h1 l v ih =>
    rw [topR_snoc]
    have e : mx (topR l) v ≤ B ↔ topR l ≤ B ∧ v ≤ B := by
      unfold mx
      split <;> omega
    rw [e, ih]
    constructor
    · rintro ⟨h1, h2⟩ x hx
      rcases List.mem_append.1 hx with hx | hx
      · exact h1 x hx
      · rw [List.mem_singleton.1 hx]; exact h2
    · intro h
      exact ⟨fun x hx => h x (List.mem_append_left _ hx), h v (by simp)⟩
theorem ref_top (lim : Int) (x8 out : List Int) (hl : out.length ≤ 300) : ∀ (d i k : Nat), i + d = out.length → wherryref01_Lengths.l2 (d + 1 + k) lim x8 out (topR (out.take i)) (i : Int) = if topR out ≤ lim then some (out, 0) else wherryref01_Lengths.l3 k lim x8 0 := by
  intro d
  induction d with
  | zero =>
    intro i k hi
    rw [show 0 + 1 + k = k + 1 from by omega]
    simp only [wherryref01_Lengths.l2]
    rw [if_neg (by omega), List.take_of_length_le (by omega)]
  | succ d ih =>
    intro i k hi
    have hlt : i < out.length := by omega
    have e : rd out (i : Int) = out[i] := by rw [rd_nat]; simp [hlt]
    rw [show d + 1 + 1 + k = (d + 1 + k) + 1 from by omega]
    simp only [wherryref01_Lengths.l2]
    rw [if_pos (by omega), if_pos (by omega), wrap64_in (a := (i : Int) + 1) (by omega) (by omega), e]
    have := ih (i + 1) k (by omega)
    rw [List.take_succ_eq_append_getElem hlt, topR_snoc] at this
    exact this
theorem ref_half (lim : Int) (ws : List Int) (h : weighs ws = true) : ∀ (d i k : Nat), i + d = ws.length → wherryref01_Lengths.l3 (d + 1 + k) lim (halfTo ws i) (i : Int) = wherryref01_Lengths.l1 k lim (halved ws) := by
  obtain ⟨w1, w2⟩ := (weighs_iff ws).1 h
  intro d
  induction d with
  | zero =>
    intro i k hi
    have e : i = ws.length := by omega
    subst e
    rw [show 0 + 1 + k = k + 1 from by omega]
    simp only [wherryref01_Lengths.l3]
    rw [if_neg (by rw [halfTo_length]; omega), halfTo_all]
  | succ d ih =>
    intro i k hi
    have hlt : i < ws.length := by omega
    have hw := w2 ws[i] (List.getElem_mem hlt)
    rw [show d + 1 + 1 + k = (d + 1 + k) + 1 from by omega]
    simp only [wherryref01_Lengths.l3]
    rw [if_pos (by rw [halfTo_length]; omega), if_pos (by omega), halfTo_at ws i hlt, wrap64_in (a := (i : Int) + 1) (by omega) (by omega), Int.toNat_natCast]
    have := ih (i + 1) k (by omega)
    rw [halfTo_succ ws i hlt] at this
    have e : (if 0 < ws[i] then wrap64 ((wrap64 (ws[i] + 1)).tdiv 2) else ws[i]) = wrap64 ((wrap64 (ws[i] + 1)).tdiv 2) := by
      by_cases h0 : 0 < ws[i]
      · rw [if_pos h0]
      · rw [if_neg h0, show ws[i] = 0 from by omega]
        decide +kernel
    rw [e] at this
    exact this
theorem ref_lens : ∀ (m : Nat) (ws : List Int) (lim : Int) (r : List Int) (k : Nat), weighs ws = true → 0 ≤ lim → lensFrom m ws lim = some r → 300000 + 700 * m ≤ k → wherryref01_Lengths.l1 k lim ws = some (r, 0)
  | 0, ws, lim, r, k, _, _, hr, _ => by simp [lensFrom] at hr
  | m + 1, ws, lim, r, k, h, h0, hr, hk => by
    obtain ⟨w1, w2⟩ := (weighs_iff ws).1 h
    have hlen := once_length ws
    rw [Nat.mul_succ, ← Nat.add_assoc] at hk
    obtain ⟨Q, hQ⟩ : ∃ Q, Q = 300000 + 700 * m := ⟨_, rfl⟩
    have hQ3 : 300000 ≤ Q := by rw [hQ]; exact Nat.le_add_right _ _
    rw [← hQ] at hk
    obtain ⟨k', rfl⟩ : ∃ k', k = ((onceOf ws).length + 1 + (ws.length + 1 + k')) + 1 := ⟨k - (onceOf ws).length - ws.length - 3, by omega⟩
    have hk2 : 300000 + 700 * m ≤ k' := by rw [← hQ]; omega
    simp only [wherryref01_Lengths.l1]
    have hfuel : 300000 ≤ (onceOf ws).length + 1 + (ws.length + 1 + k') := Nat.le_trans hQ3 (by omega)
    rw [reflens_is ws w1 _ hfuel, Option.bind_some]
    have ht := ref_top lim ws (onceOf ws) (by omega) (onceOf ws).length 0 (ws.length + 1 + k') (by omega)
    rw [show topR ((onceOf ws).take 0) = 0 from rfl, show ((0 : Nat) : Int) = 0 from rfl] at ht
    rw [ht]
    unfold lensFrom at hr
    by_cases hc : topR (onceOf ws) ≤ lim
    · rw [if_pos hc]
      rw [if_pos (Or.inr ((top_le lim h0 _).2 ((topR_le lim h0 _).1 hc)))] at hr
      injection hr with hr
      rw [hr]
    · rw [if_neg hc]
      have hne : ¬ ((onceOf ws).length = 0 ∨ topOf (onceOf ws) ≤ lim) := by
        rintro (he | he)
        · have : onceOf ws = [] := List.length_eq_zero_iff.1 he
          rw [this] at hc
          exact hc h0
        · exact hc ((topR_le lim h0 _).2 ((top_le lim h0 _).1 he))
      rw [if_neg hne] at hr
      have hh := ref_half lim ws h ws.length 0 k' (by omega)
      have e0 : halfTo ws 0 = ws := by unfold halfTo halved; simp
      rw [e0, show ((0 : Nat) : Int) = 0 from rfl] at hh
      rw [hh]
      exact ref_lens m (halved ws) lim r k' (by rw [halved_is h]; exact half_weighs h) h0 hr hk2
/-- The reference's lengths are the tree's. -/
theorem refLengths_is (ws : List Int) (lim : Int) (k : Nat) (hk : 400000 ≤ k) : wherryref01_Lengths.f k ws lim = tree_Lengths.f ws lim := by
  unfold wherryref01_Lengths.f
  rw [refweights_is ws k (by omega), Option.bind_some]
  by_cases h : weighs ws = true
  · obtain ⟨w1, w2⟩ := (weighs_iff ws).1 h
    rw [h, if_pos rfl]
    obtain ⟨j, rfl⟩ : ∃ j, k = ws.length + (j + 1) := ⟨k - ws.length - 1, by omega⟩
    have hp := ref_pos ws w1 lim (tree_Lengths.f ws lim) j ?_ ws.length 0 (by omega)
    · exact hp
    · unfold wherryref01_Lengths.l0
      rw [if_neg (by omega), refin_is, Option.bind_some]
      have go : ∀ b : Bool, (b = true → lim > 15 ∨ lim < 5 ∨ (lim < 9 ∧ pos ws > 19)) → (b = false → lim ≤ 15 ∧ (9 ≤ lim ∨ (5 ≤ lim ∧ pos ws ≤ 19))) → wherryref01_Lengths.j1 j ws lim b = tree_Lengths.f ws lim := by
        intro b h1 h2
        obtain ⟨j, rfl⟩ : ∃ m, j = m + 1 := ⟨j - 1, by omega⟩
        simp only [wherryref01_Lengths.j1]
        cases b with
        | true =>
          rw [if_pos rfl, lens_bad (Or.inr (h1 rfl))]
        | false =>
          obtain ⟨h3, h4⟩ := h2 rfl
          rw [if_neg (by decide), twinInts_is ws (by omega), Option.bind_some]
          obtain ⟨ws', a1, _⟩ := lens_fuel 20 ws lim 32 h (fun x hx => by have := (w2 x hx).2; omega) h4 (by omega)
          rw [ref_lens 32 ws lim _ j h (by omega) a1 (by omega)]
          unfold tree_Lengths.f lensOf
          rw [if_neg (by rw [h]; simp; omega), a1]
          rfl
      by_cases h9 : 9 ≤ lim ∧ lim ≤ 15
      · rw [decide_eq_true h9, if_pos rfl]
        exact go false (fun hh => by simp at hh) (fun _ => by omega)
      · rw [decide_eq_false h9, if_neg (by decide), refin_is, Option.bind_some]
        by_cases h5 : 5 ≤ lim ∧ lim ≤ 15
        · rw [decide_eq_true h5, if_pos rfl]
          refine go _ (fun hh => ?_) (fun hh => ?_)
          · have : ¬ ((pos ws : Int) ≤ 19) := by simpa using hh
            omega
          · have : (pos ws : Int) ≤ 19 := by simpa using hh
            omega
        · rw [decide_eq_false h5, if_neg (by decide)]
          exact go true (fun _ => by omega) (fun hh => by simp at hh)
  · have hf : weighs ws = false := by simpa using h
    rw [hf, if_neg (by decide), lens_bad (Or.inl hf)]
theorem any_right {l : List Int} (hl : l.length ≤ 300) : rightB l = !l.any badLen := by
  unfold rightB
  rw [decide_eq_true hl, Bool.true_and, List.not_any_eq_all_not]
  congr 1
  funext x
  unfold badLen
  by_cases h0 : x < 0
  · rw [decide_eq_true h0, decide_eq_false (by omega)]; rfl
  · by_cases h1 : x > 15
    · rw [decide_eq_false h0, decide_eq_true h1, decide_eq_true (by omega), decide_eq_false (by omega)]; rfl
    · rw [decide_eq_false h0, decide_eq_false h1, decide_eq_true (by omega), decide_eq_true (by omega)]; rfl
theorem refcost_loop (a b : List Int) (hl : a.length = b.length) (h300 : a.length ≤ 300) (ha : ∀ x ∈ a, 0 ≤ x ∧ x ≤ 1048576) (hb : ∀ x ∈ b, 0 ≤ x ∧ x ≤ 15) : ∀ (d i k : Nat), i + d = a.length → d < k → wherryref01_Cost.l0 k a b (costOf (a.take i) (b.take i)) (i : Int) = some (costOf a b, 0) := by
  intro d
  induction d with
  | zero =>
    intro i k hi hk
    obtain ⟨k, rfl⟩ : ∃ m, k = m + 1 := ⟨k - 1, by omega⟩
    simp only [wherryref01_Cost.l0]
    rw [if_neg (by omega), List.take_of_length_le (by omega), List.take_of_length_le (by omega)]
  | succ d ih =>
    intro i k hi hk
    obtain ⟨k, rfl⟩ : ∃ m, k = m + 1 := ⟨k - 1, by omega⟩
    have hla : i < a.length := by omega
    have hlb : i < b.length := by omega
    have ea : rd a (i : Int) = a[i] := by rw [rd_nat]; simp [hla]
    have eb : rd b (i : Int) = b[i] := by rw [rd_nat]; simp [hlb]
    have g1 := ha a[i] (List.getElem_mem hla)
    have g2 := hb b[i] (List.getElem_mem hlb)
    have hm : 0 ≤ a[i] * b[i] := Int.mul_nonneg g1.1 g2.1
    have hm2 : a[i] * b[i] ≤ 1048576 * 15 := Int.mul_le_mul g1.2 g2.2 g2.1 (by omega)
    have hc := costOf_le (a.take i) (b.take i) (fun x hx => ha x (List.mem_of_mem_take hx)) (fun x hx => hb x (List.mem_of_mem_take hx))
    rw [List.length_take] at hc
    simp only [wherryref01_Cost.l0]
    rw [if_pos (by omega), if_pos (by omega), if_pos (by omega), ea, eb, wrap64_in (a := a[i] * b[i]) (by omega) (by omega), wrap64_in (a := costOf (a.take i) (b.take i) + a[i] * b[i]) (by omega) (by omega), wrap64_in (a := (i : Int) + 1) (by omega) (by omega)]
    have := ih (i + 1) k (by omega) (by omega)
    rw [List.take_succ_eq_append_getElem hla, List.take_succ_eq_append_getElem hlb, costOf_snoc _ _ _ _ (by rw [List.length_take, List.length_take]; omega)] at this
    exact this
theorem refCost_is (a b : List Int) (k : Nat) (hk : 400 ≤ k) : wherryref01_Cost.f k a b = tree_Cost.f a b := by
  obtain ⟨k, rfl⟩ : ∃ m, k = m + 1 := ⟨k - 1, by omega⟩
  unfold wherryref01_Cost.f tree_Cost.f
  by_cases hl : a.length = b.length
  · rw [if_pos (by omega), if_neg (by omega), refweights_is a _ (by omega), Option.bind_some]
    by_cases hw : weighs a = true
    · obtain ⟨w1, w2⟩ := (weighs_iff a).1 hw
      rw [hw, if_pos rfl, refright_is b _ (by omega), Option.bind_some, any_right (by omega), Bool.not_not]
      simp only [wherryref01_Cost.j0]
      by_cases hb : b.any badLen = true
      · rw [hb, if_pos rfl, if_neg (by simp)]
      · have hbf : b.any badLen = false := by simpa using hb
        rw [hbf, if_neg (by decide), if_pos ⟨trivial, rfl⟩]
        have := refcost_loop a b hl w1 w2 (any_bad hbf) a.length 0 k (by omega) (by omega)
        exact this
    · have hf : weighs a = false := by simpa using hw
      rw [hf, if_neg (by decide)]
      simp only [wherryref01_Cost.j0]
      rw [if_pos trivial, if_neg (by simp)]
  · rw [if_neg (by omega), if_pos hl]
end Go.Proofs.Ytaoeghdpmmeaiaa.Glue
