/- TreeMakes holds: the lengths make codes, none above the limit, just weights above 0 have one, and where none was halved of two weights the greater one's is no longer; at all lists of ints and every three ints. No condition. -/
import Derived.Test.YtaoeghdpmmeaiaaTreeRef2
import Derived.Test.YtaoeghdpmmeaiaaTreeMono
import Derived.Test.YtaoeghdpmmeaiaaPx4
import Derived.Test.YtaoeghdpmmeaiaaPx10
import Derived.Test.YtaoeghdpmmeaiaaPx12
import Derived.Test.YtaoeghdpmmeaiaaPx16
import Derived.Test.YtaoeghdpmmeaiaaPx28
namespace Go.Proofs.Ytaoeghdpmmeaiaa.Pure
open Go.RowKit Go.Proofs.Ytaoeghdpmmeaiaa.P Go.Proofs.Ytaoeghdpmmeaiaa.Glue Go.Proofs.YtaoeghdpmmeaiaaW.PrintWords Go.Proofs.YtaoeghdpmmeaiaaW.PrintLast Go.Proofs.YtaoeghdpmmeaiaaW.PrintMore
set_option linter.unusedVariables false
set_option linter.unusedSimpArgs false

theorem makes_j4 (w l : List Int) (a2 a3 : Int) (hl : l.length = w.length) (h0 : 0 < w.length) (h300 : w.length ≤ 300) (b : Bool) (h : b = false → ∀ i k : Nat, i < w.length → k < w.length → rd w (k : Int) < rd w (i : Int) → rd w (k : Int) ≠ 0 → rd l (i : Int) ≤ rd l (k : Int)) (k : Nat) (hk : 50 ≤ k) : wherrylaw03_TreeMakes.j4 k w a2 a3 l b = some true := by
  obtain ⟨k, rfl⟩ : ∃ m, k = m + 1 := ⟨k - 1, by omega⟩
  have hw : ∀ k, 40 ≤ k → ((wherrylaw03_wakes.f k).bind fun t => some t) = some true := by
    intro k hk
    rw [wakes03_is k hk]
    rfl
  simp only [wherrylaw03_TreeMakes.j4]
  cases b with
  | true =>
    rw [if_pos rfl]
    exact hw k (by omega)
  | false =>
    obtain ⟨i, hi, ei⟩ := place_of a2 w.length h0 (by omega)
    obtain ⟨j, hj, ej⟩ := place_of a3 w.length h0 (by omega)
    rw [if_neg (by decide), ei, ej, if_neg (by rw [u64_in (by omega) (by omega)]; omega), if_pos (by omega), if_pos (by omega), if_pos (by omega), if_pos (by omega)]
    by_cases h1 : rd w (i : Int) ≤ rd w (j : Int)
    · rw [if_pos h1]; exact hw k (by omega)
    · rw [if_neg h1]
      by_cases h2 : rd w (j : Int) = 0
      · rw [if_pos h2]; exact hw k (by omega)
      · rw [if_neg h2, if_pos (by omega), if_pos (by omega), if_pos (h rfl i j hi hj (by omega) h2)]
        exact hw k (by omega)
theorem makes_l1 (w l : List Int) (a2 a3 : Int) (hl : l.length = w.length) (h0 : 0 < w.length) (h300 : w.length ≤ 300) (hp : ∀ x ∈ w, 0 ≤ x ∧ x ≤ 1048576)
    (h : w.sum < 2500 → tree_Lengths.f w 15 = some (l, 0) → ∀ i k : Nat, i < w.length → k < w.length → rd w (k : Int) < rd w (i : Int) → rd w (k : Int) ≠ 0 → rd l (i : Int) ≤ rd l (k : Int)) :
    ∀ (d i k : Nat) (s : Int), i + d = w.length → d + 450000 ≤ k → (s = 1073741824 ∨ s = (w.take i).sum) → 0 ≤ s → wherrylaw03_TreeMakes.l1 k w a2 a3 l s (i : Int) = some true := by
  intro d
  induction d with
  | zero =>
    intro i k s hi hk hs hs0
    obtain ⟨k, rfl⟩ : ∃ m, k = m + 1 := ⟨k - 1, by omega⟩
    obtain ⟨x, e, hx, hxl⟩ : ∃ x e, tree_Lengths.f w 15 = some (x, e) ∧ x.length ≤ 300 := by
      obtain ⟨ws', a1, a2, a3, _⟩ := lens_ok ((weighs_iff w).2 ⟨h300, hp⟩) (show (15 : Int) ≤ 15 by omega) (Or.inl (by omega))
      exact ⟨_, _, a1, by rw [once_length, a3]; exact h300⟩
    simp only [wherrylaw03_TreeMakes.l1]
    rw [if_neg (by omega), refLengths_is w 15 k (by omega), hx, Option.bind_some]
    dsimp only
    have yes := makes_j4 w l a2 a3 hl h0 h300 true (fun hh => by simp at hh) k (by omega)
    by_cases hc : s ≥ 2500
    · rw [if_pos hc]; exact yes
    · rw [if_neg hc]
      by_cases he : e = 0
      · rw [if_pos he, keepInts_is x l (by omega) k (by omega), Option.bind_some]
        refine makes_j4 w l a2 a3 hl h0 h300 _ (fun hh => ?_) k (by omega)
        have hxe : x = l := by simpa using hh
        subst hxe he
        refine h ?_ hx
        rcases hs with hs | hs
        · omega
        · rw [List.take_of_length_le (by omega)] at hs
          omega
      · rw [if_neg he]; exact yes
  | succ d ih =>
    intro i k s hi hk hs hs0
    have hlt : i < w.length := by omega
    obtain ⟨k, rfl⟩ : ∃ m, k = m + 1 := ⟨k - 1, by omega⟩
    have e : rd w (i : Int) = w[i] := by rw [rd_nat]; simp [hlt]
    have hw := hp w[i] (List.getElem_mem hlt)
    have hsum := sum_le 1048576 (w.take i) (fun x hx => hp x (List.mem_of_mem_take hx))
    rw [List.length_take] at hsum
    have hb : s ≤ 1073741824 := by
      rcases hs with hs | hs
      · omega
      · omega
    simp only [wherrylaw03_TreeMakes.l1]
    rw [if_pos (by omega), if_pos (by omega), e, wrap64_in (a := s + w[i]) (by omega) (by omega), wrap64_in (a := (i : Int) + 1) (by omega) (by omega)]
    refine ih (i + 1) k _ (by omega) (by omega) ?_ (by unfold mn; split <;> omega)
    rw [List.take_succ_eq_append_getElem hlt, List.sum_append]
    unfold mn
    by_cases hm : (1073741824 : Int) < s + w[i]
    · rw [if_pos hm]; exact Or.inl rfl
    · rw [if_neg hm]
      rcases hs with hs | hs
      · exact Or.inl (by omega)
      · exact Or.inr (by rw [hs]; simp)
theorem makes_l0 (w l : List Int) (a1 a2 a3 : Int) (hl : l.length = w.length) (h300 : w.length ≤ 300) (hv : ∀ i : Nat, i < w.length → (0 < rd l (i : Int) ↔ 0 < rd w (i : Int)) ∧ rd l (i : Int) ≤ a1)
    (hend : ∀ k, 460000 ≤ k → wherrylaw03_TreeMakes.l1 k w a2 a3 l 0 0 = some true) : ∀ (d i k : Nat), i + d = w.length → d + 470000 ≤ k → wherrylaw03_TreeMakes.l0 k w a1 a2 a3 l (i : Int) = some true := by
  intro d
  induction d with
  | zero =>
    intro i k hi hk
    obtain ⟨k, rfl⟩ : ∃ m, k = m + 1 := ⟨k - 1, by omega⟩
    simp only [wherrylaw03_TreeMakes.l0]
    rw [if_neg (by omega)]
    exact hend k (by omega)
  | succ d ih =>
    intro i k hi hk
    obtain ⟨k, rfl⟩ : ∃ m, k = m + 1 := ⟨k - 1, by omega⟩
    obtain ⟨h1, h2⟩ := hv i (by omega)
    have e : (decide (rd l (i : Int) > 0) != decide (rd w (i : Int) > 0)) = false := by
      by_cases h : 0 < rd w (i : Int)
      · rw [decide_eq_true h, decide_eq_true (h1.2 h)]; rfl
      · rw [decide_eq_false h, decide_eq_false (fun hh => h (h1.1 hh))]; rfl
    simp only [wherrylaw03_TreeMakes.l0]
    rw [if_pos (by omega), if_pos (by omega), if_pos (by omega), e, if_neg (by decide), if_neg (by omega), wrap64_in (a := (i : Int) + 1) (by omega) (by omega)]
    exact ih (i + 1) k (by omega) (by omega)
theorem TreeMakes : wherrylaw03_TreeMakes.Pure := by
  intro l0 a1 a2 a3 _ _ _ _ _ _
  refine ⟨500000, ?_⟩
  obtain ⟨k, hk⟩ : ∃ k, k = 499998 := ⟨_, rfl⟩
  rw [show (500000 : Nat) = k + 2 from by omega]
  have hk4 : 480000 ≤ k := by omega
  clear hk
  have out : wherrylaw03_TreeMakes.j0 (k + 2) l0 a1 a2 a3 true = some true := by
    rw [show k + 2 = (k + 1) + 1 from rfl]
    simp only [wherrylaw03_TreeMakes.j0]
    rw [if_pos trivial]
  unfold wherrylaw03_TreeMakes.f
  by_cases h300 : (l0.length : Int) > 300
  · rw [if_pos h300]; exact out
  rw [if_neg h300]
  by_cases h0 : l0.length = 0
  · rw [show ((l0.length : Int) == 0) = true from by rw [h0]; rfl]; exact out
  rw [show ((l0.length : Int) == 0) = false from by rw [beq_eq_false_iff_ne]; omega]
  simp only [wherrylaw03_TreeMakes.j0]
  rw [if_neg (by decide)]
  by_cases h : weighs l0 = true ∧ a1 ≤ 15 ∧ (9 ≤ a1 ∨ (5 ≤ a1 ∧ pos l0 ≤ 19))
  · obtain ⟨hw, h15, hlim⟩ := h
    obtain ⟨w1, w2⟩ := (weighs_iff l0).1 hw
    obtain ⟨ws', b1, b2, b3, b4, b5⟩ := lens_ok hw h15 hlim
    have hlen : (onceOf ws').length = l0.length := by rw [once_length, b3]
    rw [b1, Option.bind_some]
    dsimp only
    rw [if_pos rfl, if_pos (by omega), once_check ws' b2 (fun v hv => by have := (b5 v hv).2; omega), Option.bind_some, show ((0 : Int) != 0) = false from rfl]
    simp only [wherrylaw03_TreeMakes.j1]
    rw [if_neg (by decide)]
    refine makes_l0 l0 (onceOf ws') a1 a2 a3 hlen (by omega) (fun i hi => ⟨?_, ?_⟩) (fun k hk => ?_) l0.length 0 k (by omega) (by omega)
    · rw [once_has ws' b2 (by omega), b4 i, rd_nat]
    · exact (b5 _ (rd_lt_mem (by omega))).2
    · refine makes_l1 l0 (onceOf ws') a2 a3 hlen (by omega) (by omega) w2 (fun hs hx i j hi hj hlt hne => ?_) l0.length 0 k 0 (by omega) (by omega) (Or.inr rfl) (Int.le_refl _)
      have hf := once_flat l0 hw (by omega)
      have he := lens_flat hw (fun v hv => (hf v hv).2)
      rw [he] at hx
      have hx := congrArg (·.1) (Option.some.inj hx)
      have hx : onceOf l0 = onceOf ws' := hx
      rw [← hx]
      rw [rd_nat] at hlt hne
      rw [rd_nat] at hlt
      have hjp : 0 < l0.getD j 0 := by
        have := (w2 _ (rd_lt_mem hj)).1
        rw [rd_nat] at this
        omega
      by_cases h2 : 2 ≤ pos l0
      · exact once_mono l0 hw h2 hi hj hjp hlt
      · exfalso
        have hpn : pos l0 ≠ 0 := by
          intro h0
          have hl := leafs_count l0
          have hm := (leafs_mem l0 l0.length _).2 ⟨j, hj, hjp, rfl⟩
          rw [h0] at hl
          rw [List.length_eq_zero_iff.1 hl] at hm
          simp at hm
        obtain ⟨c, c1, c2, c3, c4⟩ := once_single l0 (by omega)
        have := c3 i hi (by omega)
        have := c3 j hj hjp
        subst_vars
        omega
  · have hb : tree_Lengths.f l0 a1 = some ([], 1) := by
      refine lens_bad ?_
      cases hw : weighs l0 with
      | false => exact Or.inl rfl
      | true => rw [hw] at h; simp at h; omega
    rw [hb, Option.bind_some]
    dsimp only
    rw [if_neg (by decide), if_pos rfl, if_pos (show (([] : List Int).length : Int) = 0 from rfl), wakes03_is (k + 1) (by omega)]
    rfl
end Go.Proofs.Ytaoeghdpmmeaiaa.Pure
