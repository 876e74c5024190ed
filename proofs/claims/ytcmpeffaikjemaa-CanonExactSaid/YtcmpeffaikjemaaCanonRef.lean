/- What the reference's functions on lengths answer: what canon's do; used by the claims of this seat. -/
import Derived.Test.YtcmpeffaikjemaaCanonG
import Derived.Test.YtcmpeffaikjemaaPx2
import Derived.Test.YtcmpeffaikjemaaPx4
import Derived.Test.YtcmpeffaikjemaaPx5
import Derived.Test.YtcmpeffaikjemaaPx7
import Derived.Test.YtcmpeffaikjemaaPx11
import Derived.Test.YtcmpeffaikjemaaPx12
namespace Go.Proofs.Ytcmpeffaikjemaa.Glue
open Go.RowKit Go.Proofs.Ytcmpeffaikjemaa.P Go.Proofs.YtcmpeffaikjemaaW.PrintWords Go.Proofs.YtcmpeffaikjemaaW.PrintLast Go.Proofs.YtcmpeffaikjemaaW.PrintMore
open WP (Row Bytes at_ val)

/-! What the reference's functions on lengths answer: the same as canon's. -/
theorem refbit_is {B : List Int} (hb : Bytes B) (hl : B.length < 2 ^ 40) (i : Nat) (hi : i < 8 * B.length) : wherryref01_bit.f B (i : Int) = some ((val B / 2 ^ i % 2 : Nat) : Int) := by
  unfold wherryref01_bit.f
  rw [show (8 : Int) = ((8 : Nat) : Int) from rfl, tdiv_nat, tmod_nat, wrap64_in (by omega) (by omega), if_pos (by omega), if_pos (by omega), u64_in (by omega) (by omega), if_pos (by omega), rd_nat]
  have hg := hb.get (i / 8)
  have hbit := WP.val_bit hb i
  generalize B.getD (i / 8) 0 = x at hg hbit ⊢
  obtain ⟨y, rfl⟩ := Int.eq_ofNat_of_zero_le hg.1
  rw [Int.toNat_natCast] at hbit
  have hy1 : y / 2 ^ (i % 8) ≤ y := Nat.div_le_self _ _
  have hy2 : y / 2 ^ (i % 8) < 2 ^ 63 := by omega
  rw [shr_nat (by simp [IntKind.bits]; omega)]
  generalize y / 2 ^ (i % 8) = q at hbit hy2 ⊢
  rw [wrap64_in (by omega) (by omega), and_one _ hy2, hbit]
theorem refin_is (a b c : Int) : wherryref01_in.f a b c = some (decide (b ≤ a ∧ a ≤ c)) := by
  unfold wherryref01_in.f
  by_cases h : a ≥ b
  · rw [if_pos h]; congr 1; simp [h]
  · rw [if_neg h]; congr 1; simp; omega
theorem refright_loop (l : List Int) (hl : l.length ≤ 300) : ∀ (d i k : Nat), i + d = l.length → d < k → wherryref01_RightLengths.l0 k l (i : Int) = some ((l.drop i).all (fun x => decide (0 ≤ x) && decide (x ≤ 15))) := by
  intro d
  induction d with
  | zero =>
    intro i k hi hk
    obtain ⟨k, rfl⟩ : ∃ m, k = m + 1 := ⟨k - 1, by omega⟩
    simp only [wherryref01_RightLengths.l0]
    rw [if_neg (by omega), List.drop_of_length_le (by omega)]
    rfl
  | succ d ih =>
    intro i k hi hk
    obtain ⟨k, rfl⟩ : ∃ m, k = m + 1 := ⟨k - 1, by omega⟩
    have hlt : i < l.length := by omega
    simp only [wherryref01_RightLengths.l0]
    have e : rd l (i : Int) = l[i] := by rw [rd_nat, List.getD_eq_getElem?_getD, List.getElem?_eq_getElem hlt]; rfl
    rw [if_pos (by omega), if_pos (by omega), refin_is, Option.bind_some, wrap64_in (by omega) (by omega), show (i : Int) + 1 = ((i + 1 : Nat) : Int) from by omega, List.drop_eq_getElem_cons hlt, List.all_cons, e]
    by_cases h0 : 0 ≤ l[i] ∧ l[i] ≤ 15
    · rw [if_pos (decide_eq_true h0), ih (i + 1) k (by omega) (by omega), decide_eq_true h0.1, decide_eq_true h0.2]; rfl
    · rw [if_neg (by simpa using h0)]
      by_cases h1 : 0 ≤ l[i]
      · rw [decide_eq_true h1, decide_eq_false (by omega)]; rfl
      · rw [decide_eq_false h1]; rfl
theorem refright_is (l : List Int) (k : Nat) (hk : 302 ≤ k) : wherryref01_RightLengths.f k l = some (rightB l) := by
  unfold wherryref01_RightLengths.f rightB
  by_cases h : l.length ≤ 300
  · rw [if_neg (by omega), decide_eq_true h]
    have := refright_loop l h l.length 0 k (by omega) (by omega)
    simpa using this
  · rw [if_pos (by omega), decide_eq_false h]; rfl
/-- What the first symbols weigh, and how many have a code. -/
def weighAt (l : List Int) (i : Nat) : Nat := weighTo (fun n => (symsTo l i n).length) 15
def allAt (l : List Int) (i : Nat) : Nat := allTo (fun n => (symsTo l i n).length) 15
theorem weigh_put (c : Nat → Nat) (v : Nat) (h0 : 0 < v) : ∀ N, weighTo (fun n => c n + if n = v then 1 else 0) N = weighTo c N + if v ≤ N then 2 ^ (15 - v) else 0
  | 0 => by rw [if_neg (by omega)]; rfl
  | N + 1 => by
    simp only [weighTo]
    rw [weigh_put c v h0 N, Nat.add_mul]
    by_cases h1 : v ≤ N
    · rw [if_pos h1, if_neg (show ¬ N + 1 = v by omega), if_pos (show v ≤ N + 1 by omega)]; omega
    · rw [if_neg h1]
      by_cases h2 : N + 1 = v
      · rw [if_pos h2, if_pos (show v ≤ N + 1 by omega), h2]; omega
      · rw [if_neg h2, if_neg (show ¬ v ≤ N + 1 by omega)]; omega
theorem all_put (c : Nat → Nat) (v : Nat) (h0 : 0 < v) : ∀ N, allTo (fun n => c n + if n = v then 1 else 0) N = allTo c N + if v ≤ N then 1 else 0
  | 0 => by rw [if_neg (by omega)]; rfl
  | N + 1 => by
    simp only [allTo]
    rw [all_put c v h0 N]
    by_cases h1 : v ≤ N
    · rw [if_pos h1, if_neg (show ¬ N + 1 = v by omega), if_pos (show v ≤ N + 1 by omega)]; omega
    · rw [if_neg h1]
      by_cases h2 : N + 1 = v
      · rw [if_pos h2, if_pos (show v ≤ N + 1 by omega)]; omega
      · rw [if_neg h2, if_neg (show ¬ v ≤ N + 1 by omega)]; omega
theorem rank_len (l : List Int) (i n : Nat) : (symsTo l (i + 1) n).length = (symsTo l i n).length + if l.getD i 0 = (n : Int) ∧ 0 < n then 1 else 0 := by
  rw [symsTo_step, List.length_append]
  congr 1
  split <;> rfl
theorem rank_put {l : List Int} {i v : Nat} (hv : l.getD i 0 = (v : Int)) (h0 : 0 < v) : (fun n => (symsTo l (i + 1) n).length) = fun n => (symsTo l i n).length + if n = v then 1 else 0 := by
  funext n
  rw [rank_len, hv]
  congr 1
  by_cases h : n = v
  · rw [if_pos h, if_pos (by omega)]
  · rw [if_neg h, if_neg (by omega)]
theorem rank_keep {l : List Int} {i : Nat} (hv : l.getD i 0 = 0) : (fun n => (symsTo l (i + 1) n).length) = fun n => (symsTo l i n).length := by
  funext n
  rw [rank_len, hv, if_neg (by omega)]
  rfl
theorem weighAt_put {l : List Int} {i v : Nat} (hv : l.getD i 0 = (v : Int)) (h0 : 0 < v) (h15 : v ≤ 15) : weighAt l (i + 1) = weighAt l i + 2 ^ (15 - v) ∧ allAt l (i + 1) = allAt l i + 1 := by
  unfold weighAt allAt
  rw [rank_put hv h0, weigh_put _ v h0, all_put _ v h0, if_pos h15, if_pos h15]
  exact ⟨rfl, rfl⟩
theorem weighAt_keep {l : List Int} {i : Nat} (hv : l.getD i 0 = 0) : weighAt l (i + 1) = weighAt l i ∧ allAt l (i + 1) = allAt l i := by
  unfold weighAt allAt
  rw [rank_keep hv]
  exact ⟨rfl, rfl⟩
theorem allAt_le (l : List Int) (i : Nat) : allAt l i ≤ 15 * i := allTo_le _ i (fun n => symsTo_len l i n) 15
theorem bound_at {l : List Int} (hr : rightB l = true) {i : Nat} (hi : i < l.length) : ∃ v : Nat, l.getD i 0 = (v : Int) ∧ v ≤ 15 := by
  have := ((rightB_iff l).1 hr).2 _ (getD_mem hi)
  exact ⟨(l.getD i 0).toNat, by omega, by omega⟩
theorem refweigh_loop (l : List Int) (hr : rightB l = true) : ∀ (d i k : Nat), i + d = l.length → d < k → wherryref01_Weigh.l0 k l (weighAt l i : Int) (i : Int) = some (cW l : Int) := by
  have hl := ((rightB_iff l).1 hr).1
  have hall : ∀ i, weighAt l i ≤ allAt l i * 16384 := fun i => weigh_all _ 15
  intro d
  induction d with
  | zero =>
    intro i k hi hk
    obtain ⟨k, rfl⟩ : ∃ m, k = m + 1 := ⟨k - 1, by omega⟩
    obtain rfl : i = l.length := by omega
    simp only [wherryref01_Weigh.l0]
    rw [if_neg (by omega)]
    rfl
  | succ d ih =>
    intro i k hi hk
    obtain ⟨k, rfl⟩ : ∃ m, k = m + 1 := ⟨k - 1, by omega⟩
    obtain ⟨v, hv, h15⟩ := bound_at hr (show i < l.length by omega)
    have h1 := hall i
    have h2 := allAt_le l i
    simp only [wherryref01_Weigh.l0]
    rw [if_pos (by omega), if_pos (by omega), rd_nat, hv, wrap64_in (a := (i : Int) + 1) (by omega) (by omega), show (i : Int) + 1 = ((i + 1 : Nat) : Int) from by omega]
    by_cases h0 : v = 0
    · subst h0
      rw [if_neg (by omega), ← (weighAt_keep hv).1]
      exact ih (i + 1) k (by omega) (by omega)
    · have hp : 2 ^ (15 - v) ≤ 2 ^ 15 := Nat.pow_le_pow_right (by decide) (by omega)
      have he := (weighAt_put hv (by omega) h15).1
      rw [if_pos (by omega), wrap64_in (a := 15 - (v : Int)) (by omega) (by omega), show (15 : Int) - (v : Int) = ((15 - v : Nat) : Int) from by omega, u64_in (by omega) (by omega), if_pos (by omega), shl_one (by omega)]
      generalize 2 ^ (15 - v) = q at hp he ⊢
      rw [wrap64_in (by omega) (by omega), show (weighAt l i : Int) + ((q : Nat) : Int) = ((weighAt l i + q : Nat) : Int) from by omega, ← he]
      exact ih (i + 1) k (by omega) (by omega)
theorem refweigh_is (l : List Int) (k : Nat) (hk : 302 ≤ k) : wherryref01_Weigh.f k l = canon_Weigh.f l := by
  unfold wherryref01_Weigh.f canon_Weigh.f
  rw [refright_is l k hk, Option.bind_some]
  by_cases hr : rightB l = true
  · rw [if_pos hr, if_pos hr]
    have hl := ((rightB_iff l).1 hr).1
    have h0 : weighAt l 0 = 0 := by unfold weighAt; exact (show weighTo (fun _ => 0) 15 = 0 by decide)
    have := refweigh_loop l hr l.length 0 k (by omega) (by omega)
    rw [h0] at this
    exact this
  · rw [if_neg hr, if_neg hr]
/-- The last symbol that has a code, of the first i. -/
theorem refmakes_loop (l : List Int) (hr : rightB l = true) : ∀ (d i k : Nat) (one : Nat), i + d = l.length → d + 303 < k → (allAt l i = 1 → 0 < one ∧ one ≤ 15 ∧ (symsTo l i one).length = 1) → wherryref01_makes.l0 k l (allAt l i : Int) (one : Int) (i : Int) = some (makesB l) := by
  have hl := ((rightB_iff l).1 hr).1
  have hw : ∀ k, 302 ≤ k → wherryref01_Weigh.f k l = some (cW l : Int) := fun k hk => by rw [refweigh_is l k hk]; unfold canon_Weigh.f; rw [if_pos hr]
  intro d
  induction d with
  | zero =>
    intro i k one hi hk hone
    obtain ⟨k, rfl⟩ : ∃ m, k = m + 1 := ⟨k - 1, by omega⟩
    obtain rfl : i = l.length := by omega
    have e : allAt l l.length = cA l := rfl
    have hwc : ((cW l : Int) == 32768) = (cW l == 32768) := by
      rw [Bool.eq_iff_iff, beq_iff_eq, beq_iff_eq]; omega
    simp only [wherryref01_makes.l0]
    rw [if_neg (by omega), e]
    rw [e] at hone
    unfold makesB
    by_cases h0 : cA l = 0
    · rw [if_pos (by omega), h0]
      simp
    · rw [if_neg (by omega), beq_eq_false_iff_ne.2 h0]
      by_cases h1 : cA l = 1
      · obtain ⟨o1, o2, o3⟩ := hone h1
        rw [if_pos (by omega), h1]
        by_cases h2 : one = 1
        · subst h2
          rw [if_pos (by omega), o3]
          simp
        · rw [if_neg (by omega), hw k (by omega), Option.bind_some, hwc]
          have h3 : (symsTo l l.length 1).length ≠ 1 := by
            intro h4
            have h5 : ∀ N, one ≤ N → 2 ≤ allTo (fun n => (symsTo l l.length n).length) N := by
              intro N hN
              have h6 : ∀ N, 1 ≤ N → 1 ≤ allTo (fun n => (symsTo l l.length n).length) N := by
                intro N hN
                induction N with
                | zero => omega
                | succ N ih =>
                  simp only [allTo]
                  by_cases hN1 : N = 0
                  · subst hN1; show 1 ≤ 0 + (symsTo l l.length 1).length; omega
                  · have := ih (by omega); omega
              induction N with
              | zero => omega
              | succ N ih =>
                simp only [allTo]
                by_cases hN1 : N + 1 = one
                · have := h6 N (by omega)
                  rw [hN1, o3]
                  omega
                · have := ih (by omega); omega
            have := h5 15 o2
            have e2 : cA l = allTo (fun n => (symsTo l l.length n).length) 15 := rfl
            omega
          rw [beq_eq_false_iff_ne.2 h3]
          simp
      · rw [if_neg (by omega), hw k (by omega), Option.bind_some, hwc, beq_eq_false_iff_ne.2 h1]
        simp
  | succ d ih =>
    intro i k one hi hk hone
    obtain ⟨k, rfl⟩ : ∃ m, k = m + 1 := ⟨k - 1, by omega⟩
    obtain ⟨v, hv, h15⟩ := bound_at hr (show i < l.length by omega)
    have h2 := allAt_le l i
    simp only [wherryref01_makes.l0]
    rw [if_pos (by omega), if_pos (by omega), rd_nat, hv, wrap64_in (a := (i : Int) + 1) (by omega) (by omega), show (i : Int) + 1 = ((i + 1 : Nat) : Int) from by omega]
    by_cases h0 : v = 0
    · subst h0
      have e := (weighAt_keep hv).2
      rw [if_neg (by omega), ← e]
      refine ih (i + 1) k one (by omega) (by omega) (fun h => ?_)
      rw [e] at h
      obtain ⟨o1, o2, o3⟩ := hone h
      exact ⟨o1, o2, by rw [rank_len, hv, if_neg (by omega)]; exact o3⟩
    · have e := (weighAt_put hv (by omega) h15).2
      rw [if_pos (by omega), wrap64_in (by omega) (by omega), show (allAt l i : Int) + 1 = ((allAt l i + 1 : Nat) : Int) from by omega, ← e]
      refine ih (i + 1) k v (by omega) (by omega) (fun h => ⟨by omega, h15, ?_⟩)
      have hz : allAt l i = 0 := by omega
      have hc : ∀ N, v ≤ N → (symsTo l i v).length ≤ allTo (fun n => (symsTo l i n).length) N := by
        intro N hN
        induction N with
        | zero => omega
        | succ N ih =>
          simp only [allTo]
          by_cases hN1 : N + 1 = v
          · rw [hN1]; omega
          · have := ih (by omega); omega
      have := hc 15 h15
      rw [rank_len, hv, if_pos ⟨rfl, by omega⟩]
      unfold allAt at hz
      omega
theorem refcheck_is (l : List Int) (k : Nat) (hk : 700 ≤ k) : wherryref01_CheckLengths.f k l = canon_Check.f l := by
  unfold wherryref01_CheckLengths.f canon_Check.f
  rw [refright_is l k (by omega), Option.bind_some]
  by_cases hr : rightB l = true
  · rw [if_pos hr, if_pos hr]
    have hl := ((rightB_iff l).1 hr).1
    have h0 : allAt l 0 = 0 := by unfold allAt; exact (show allTo (fun _ => 0) 15 = 0 by decide)
    have := refmakes_loop l hr l.length 0 k 0 (by omega) (by omega) (fun h => by omega)
    rw [h0] at this
    unfold wherryref01_makes.f
    rw [show (0 : Int) = ((0 : Nat) : Int) from rfl, this, Option.bind_some]
    cases makesB l <;> rfl
  · rw [if_neg hr, if_neg hr]
end Go.Proofs.Ytcmpeffaikjemaa.Glue
