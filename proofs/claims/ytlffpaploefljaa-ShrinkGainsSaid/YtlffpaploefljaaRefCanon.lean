/- The reference's functions on lengths are canon's; used by the claims of this seat. -/
import Derived.Test.YtlffpaploefljaaCanon
import Derived.Test.YtlffpaploefljaaPx1
import Derived.Test.YtlffpaploefljaaPx10
import Derived.Test.YtlffpaploefljaaPx45
import Derived.Test.YtlffpaploefljaaPx51
import Derived.Test.YtlffpaploefljaaPx62
namespace Go.Proofs.Ytlffpaploefljaa.Glue
open Go.RowKit Go.Proofs.Ytlffpaploefljaa.P Go.Proofs.YtlffpaploefljaaW.PrintWords Go.Proofs.YtlffpaploefljaaW.PrintLast Go.Proofs.YtlffpaploefljaaW.PrintMore
open WP (Row Bytes at_ val)

/-! What the reference's functions on lengths answer: the same as canon's. -/
theorem refbit_is {B : List Int} (hb : Bytes B) (hl : B.length < 2 ^ 40) (i : Nat) (hi : i < 8 * B.length) : wherryref01_bit.f B (i : Int) = some ((val B / 2 ^ i % 2 : Nat) : Int) := by
  unfold wherryref01_bit.f
  rw [show (8 : Int) = ((8 : Nat) : Int) from rfl, tdiv_nat, tmod_nat, wrap64_in (by omega) (by omega), if_pos (by omega), if_pos (by omega), u64_in (by omega) (by omega), if_pos (by omega), rd_nat]
  have hg := hb.get (i / 8)
  have hbit := WP.val_bit hb i
  generalize B.getD (i / 8) 0 = x at hg hbit ⊢
  obtain ⟨y, rfl⟩ := Int.eq_ofNat_of_zero_le hg.1
  rw [Int.toNat_natCast] at hbit
  have hy1 : y / 2 ^ (i % 8) ≤ y := Nat.div_le_self _ _
  have hy2 : y / 2 ^ (i % 8) < 2 ^ 63 := by omega
  rw [shr_nat (by simp [IntKind.bits]; omega)]
  generalize y / 2 ^ (i % 8) = q at hbit hy2 ⊢
  rw [wrap64_in (by omega) (by omega), and_one _ hy2, hbit]
theorem refin_is (a b c : Int) : wherryref01_in.f a b c = some (decide (b ≤ a ∧ a ≤ c)) := by
  unfold wherryref01_in.f
  by_cases h : a ≥ b
  · rw [if_pos h]; congr 1; simp [h]
  · rw [if_neg h]; congr 1; simp; omega
theorem refright_loop (l : List Int) (hl : l.length ≤ 300) : ∀ (d i k : Nat), i + d = l.length → d < k → wherryref01_RightLengths.l0 k l (i : Int) = some ((l.drop i).all (fun x => decide (0 ≤ x) && decide (x ≤ 15))) := by
  intro d
  induction d with
  | zero =>
    intro i k hi hk
    obtain ⟨k, rfl⟩ : ∃ m, k = m + 1 := ⟨k - 1, by omega⟩
    simp only [wherryref01_RightLengths.l0]
    rw [if_neg (by omega), List.drop_of_length_le (by omega)]
    rfl
  | succ d ih =>
    intro i k hi hk
    obtain ⟨k, rfl⟩ : ∃ m, k = m + 1 := ⟨k - 1, by omega⟩
    have hlt : i < l.length := by omega
    simp only [wherryref01_RightLengths.l0]
    have e : rd l (i : Int) = l[i] := by rw [rd_nat, List.getD_eq_getElem?_getD, List.getElem?_eq_getElem hlt]; rfl
    rw [if_pos (by omega), if_pos (by omega), refin_is, Option.bind_some, wrap64_in (by omega) (by omega), show (i : Int) + 1 = ((i + 1 : Nat) : Int) from by omega, List.drop_eq_getElem_cons hlt, List.all_cons, e]
    by_cases h0 : 0 ≤ l[i] ∧ l[i] ≤ 15
    · rw [if_pos (decide_eq_true h0), ih (i + 1) k (by omega) (by omega), decide_eq_true h0.1, decide_eq_true h0.2]; rfl
    · rw [if_neg (by simpa using h0)]
      by_cases h1 : 0 ≤ l[i]
      · rw [decide_eq_true h1, decide_eq_false (by omega)]; rfl
      · rw [decide_eq_false h1]; rfl
theorem refright_is (l : List Int) (k : Nat) (hk : 302 ≤ k) : wherryref01_RightLengths.f k l = some (rightB l) := by
  unfold wherryref01_RightLengths.f rightB
  by_cases h : l.length ≤ 300
  · rw [if_neg (by omega), decide_eq_true h]
    have := refright_loop l h l.length 0 k (by omega) (by omega)
    simpa using this
  · rw [if_pos (by omega), decide_eq_false h]; rfl
/-- What the first symbols weigh, and how many have a code. -/
def weighAt (l : List Int) (i : Nat) : Nat := weighTo (fun n => (symsTo l i n).length) 15
def allAt (l : List Int) (i : Nat) : Nat := allTo (fun n => (symsTo l i n).length) 15
theorem weigh_put (c : Nat → Nat) (v : Nat) (h0 : 0 < v) : ∀ N, weighTo (fun n => c n + if n = v then 1 else 0) N = weighTo c N + if v ≤ N then 2 ^ (15 - v) else 0
  | 0 => by rw [if_neg (by omega)]; rfl
  | N + 1 => by
    simp only [weighTo]
    rw [weigh_put c v h0 N, Nat.add_mul]
    by_cases h1 : v ≤ N
    · rw [if_pos h1, if_neg (show ¬ N + 1 = v by omega), if_pos (show v ≤ N + 1 by omega)]; omega
    · rw [if_neg h1]
      by_cases h2 : N + 1 = v
      · rw [if_pos h2, if_pos (show v ≤ N + 1 by omega), h2]; omega
      · rw [if_neg h2, if_neg (show ¬ v ≤ N + 1 by omega)]; omega
theorem all_put (c : Nat → Nat) (v : Nat) (h0 : 0 < v) : ∀ N, allTo (fun n => c n + if n = v then 1 else 0) N = allTo c N + if v ≤ N then 1 else 0
  | 0 => by rw [if_neg (by omega)]; rfl
  | N + 1 => by
    simp only [allTo]
    rw [all_put c v h0 N]
    by_cases h1 : v ≤ N
    · rw [if_pos h1, if_neg (show ¬ N + 1 = v by omega), if_pos (show v ≤ N + 1 by omega)]; omega
    · rw [if_neg h1]
      by_cases h2 : N + 1 = v
      · rw [if_pos h2, if_pos (show v ≤ N + 1 by omega)]; omega
      · rw [if_neg h2, if_neg (show ¬ v ≤ N + 1 by omega)]; omega
theorem rank_len (l : List Int) (i n : Nat) : (symsTo l (i + 1) n).length = (symsTo l i n).length + if l.getD i 0 = (n : Int) ∧ 0 < n then 1 else 0 := by
  rw [symsTo_step, List.length_append]
  congr 1
  split <;> rfl
theorem rank_put {l : List Int} {i v : Nat} (hv : l.getD i 0 = (v : Int)) (h0 : 0 < v) : (fun n => (symsTo l (i + 1) n).length) = fun n => (symsTo l i n).length + if n = v then 1 else 0 := by
  funext n
  rw [rank_len, hv]
  congr 1
  by_cases h : n = v
  · rw [if_pos h, if_pos (by omega)]
  · rw [if_neg h, if_neg (by omega)]
theorem rank_keep {l : List Int} {i : Nat} (hv : l.getD i 0 = 0) : (fun n => (symsTo l (i + 1) n).length) = fun n => (symsTo l i n).length := by
  funext n
  rw [rank_len, hv, if_neg (by omega)]
  rfl
theorem weighAt_put {l : List Int} {i v : Nat} (hv : l.getD i 0 = (v : Int)) (h0 : 0 < v) (h15 : v ≤ 15) : weighAt l (i + 1) = weighAt l i + 2 ^ (15 - v) ∧ allAt l (i + 1) = allAt l i + 1 := by
  unfold weighAt allAt
  rw [rank_put hv h0, weigh_put _ v h0, all_put _ v h0, if_pos h15, if_pos h15]
  exact ⟨rfl, rfl⟩
theorem weighAt_keep {l : List Int} {i : Nat} (hv : l.getD i 0 = 0) : weighAt l (i + 1) = weighAt l i ∧ allAt l (i + 1) = allAt l i := by
  unfold weighAt allAt
  rw [rank_keep hv]
  exact ⟨rfl, rfl⟩
theorem allAt_le (l : List Int) (i : Nat) : allAt l i ≤ 15 * i := allTo_le _ i (fun n => symsTo_len l i n) 15
theorem bound_at {l : List Int} (hr : rightB l = true) {i : Nat} (hi : i < l.length) : ∃ v : Nat, l.getD i 0 = (v : Int) ∧ v ≤ 15 := by
  have := ((rightB_iff l).1 hr).2 _ (getD_mem hi)
  exact ⟨(l.getD i 0).toNat, by omega, by omega⟩
theorem refweigh_loop (l : List Int) (hr : rightB l = true) : ∀ (d i k : Nat), i + d = l.length → d < k → wherryref01_Weigh.l0 k l (weighAt l i : Int) (i : Int) = some (cW l : Int) := by
  have hl := ((rightB_iff l).1 hr).1
  have hall : ∀ i, weighAt l i ≤ allAt l i * 16384 := fun i => weigh_all _ 15
  intro d
  induction d with
  | zero =>
    intro i k hi hk
    obtain ⟨k, rfl⟩ : ∃ m, k = m + 1 := ⟨k - 1, by omega⟩
    obtain rfl : i = l.length := by omega
    simp only [wherryref01_Weigh.l0]
    rw [if_neg (by omega)]
    rfl
  | succ d ih =>
    intro i k hi hk
    obtain ⟨k, rfl⟩ : ∃ m, k = m + 1 := ⟨k - 1, by omega⟩
    obtain ⟨v, hv, h15⟩ := bound_at hr (show i < l.length by omega)
    have h1 := hall i
    have h2 := allAt_le l i
    simp only [wherryref01_Weigh.l0]
    rw [if_pos (by omega), if_pos (by omega), rd_nat, hv, wrap64_in (a := (i : Int) + 1) (by omega) (by omega), show (i : Int) + 1 = ((i + 1 : Nat) : Int) from by omega]
    by_cases h0 : v = 0
    · subst h0
      rw [if_neg (by omega), ← (weighAt_keep hv).1]
      exact ih (i + 1) k (by omega) (by omega)
    · have hp : 2 ^ (15 - v) ≤ 2 ^ 15 := Nat.pow_le_pow_right (by decide) (by omega)
      have he := (weighAt_put hv (by omega) h15).1
      rw [if_pos (by omega), wrap64_in (a := 15 - (v : Int)) (by omega) (by omega), show (15 : Int) - (v : Int) = ((15 - v : Nat) : Int) from by omega, u64_in (by omega) (by omega), if_pos (by omega), shl_one (by omega)]
      generalize 2 ^ (15 - v) = q at hp he ⊢
      rw [wrap64_in (by omega) (by omega), show (weighAt l i : Int) + ((q : Nat) : Int) = ((weighAt l i + q : Nat) : Int) from by omega, ← he]
      exact ih (i + 1) k (by omega) (by omega)
theorem refW_is (l : List Int) (hr : rightB l = true) (k : Nat) (hk : 302 ≤ k) : wherryref01_Weigh.f k l = some (cW l : Int) := by
  unfold wherryref01_Weigh.f
  rw [refright_is l k hk, Option.bind_some, if_pos hr]
  have hl := ((rightB_iff l).1 hr).1
  have h0 : weighAt l 0 = 0 := by unfold weighAt; exact (show weighTo (fun _ => 0) 15 = 0 by decide)
  have := refweigh_loop l hr l.length 0 k (by omega) (by omega)
  rw [h0] at this
  exact this
/-- The last symbol that has a code, of the first i. -/
theorem refmakes_loop (l : List Int) (hr : rightB l = true) : ∀ (d i k : Nat) (one : Nat), i + d = l.length → d + 303 < k → (allAt l i = 1 → 0 < one ∧ one ≤ 15 ∧ (symsTo l i one).length = 1) → wherryref01_makes.l0 k l (allAt l i : Int) (one : Int) (i : Int) = some (makesB l) := by
  have hl := ((rightB_iff l).1 hr).1
  have hw : ∀ k, 302 ≤ k → wherryref01_Weigh.f k l = some (cW l : Int) := fun k hk => refW_is l hr k hk
  intro d
  induction d with
  | zero =>
    intro i k one hi hk hone
    obtain ⟨k, rfl⟩ : ∃ m, k = m + 1 := ⟨k - 1, by omega⟩
    obtain rfl : i = l.length := by omega
    have e : allAt l l.length = cA l := rfl
    have hwc : ((cW l : Int) == 32768) = (cW l == 32768) := by
      rw [Bool.eq_iff_iff, beq_iff_eq, beq_iff_eq]; omega
    simp only [wherryref01_makes.l0]
    rw [if_neg (by omega), e]
    rw [e] at hone
    unfold makesB
    by_cases h0 : cA l = 0
    · rw [if_pos (by omega), h0]
      simp
    · rw [if_neg (by omega), beq_eq_false_iff_ne.2 h0]
      by_cases h1 : cA l = 1
      · obtain ⟨o1, o2, o3⟩ := hone h1
        rw [if_pos (by omega), h1]
        by_cases h2 : one = 1
        · subst h2
          rw [if_pos (by omega), o3]
          simp
        · rw [if_neg (by omega), hw k (by omega), Option.bind_some, hwc]
          have h3 : (symsTo l l.length 1).length ≠ 1 := by
            intro h4
            have h5 : ∀ N, one ≤ N → 2 ≤ allTo (fun n => (symsTo l l.length n).length) N := by
              intro N hN
              have h6 : ∀ N, 1 ≤ N → 1 ≤ allTo (fun n => (symsTo l l.length n).length) N := by
                intro N hN
                induction N with
                | zero => omega
                | succ N ih =>
                  simp only [allTo]
                  by_cases hN1 : N = 0
                  · subst hN1; show 1 ≤ 0 + (symsTo l l.length 1).length; omega
                  · have := ih (by omega); omega
              induction N with
              | zero => omega
              | succ N ih =>
                simp only [allTo]
                by_cases hN1 : N + 1 = one
                · have := h6 N (by omega)
                  rw [hN1, o3]
                  omega
                · have := ih (by omega); omega
            have := h5 15 o2
            have e2 : cA l = allTo (fun n => (symsTo l l.length n).length) 15 := rfl
            omega
          rw [beq_eq_false_iff_ne.2 h3]
          simp
      · rw [if_neg (by omega), hw k (by omega), Option.bind_some, hwc, beq_eq_false_iff_ne.2 h1]
        simp
  | succ d ih =>
    intro i k one hi hk hone
    obtain ⟨k, rfl⟩ : ∃ m, k = m + 1 := ⟨k - 1, by omega⟩
    obtain ⟨v, hv, h15⟩ := bound_at hr (show i < l.length by omega)
    have h2 := allAt_le l i
    simp only [wherryref01_makes.l0]
    rw [if_pos (by omega), if_pos (by omega), rd_nat, hv, wrap64_in (a := (i : Int) + 1) (by omega) (by omega), show (i : Int) + 1 = ((i + 1 : Nat) : Int) from by omega]
    by_cases h0 : v = 0
    · subst h0
      have e := (weighAt_keep hv).2
      rw [if_neg (by omega), ← e]
      refine ih (i + 1) k one (by omega) (by omega) (fun h => ?_)
      rw [e] at h
      obtain ⟨o1, o2, o3⟩ := hone h
      exact ⟨o1, o2, by rw [rank_len, hv, if_neg (by omega)]; exact o3⟩
    · have e := (weighAt_put hv (by omega) h15).2
      rw [if_pos (by omega), wrap64_in (by omega) (by omega), show (allAt l i : Int) + 1 = ((allAt l i + 1 : Nat) : Int) from by omega, ← e]
      refine ih (i + 1) k v (by omega) (by omega) (fun h => ⟨by omega, h15, ?_⟩)
      have hz : allAt l i = 0 := by omega
      have hc : ∀ N, v ≤ N → (symsTo l i v).length ≤ allTo (fun n => (symsTo l i n).length) N := by
        intro N hN
        induction N with
        | zero => omega
        | succ N ih =>
          simp only [allTo]
          by_cases hN1 : N + 1 = v
          · rw [hN1]; omega
          · have := ih (by omega); omega
      have := hc 15 h15
      rw [rank_len, hv, if_pos ⟨rfl, by omega⟩]
      unfold allAt at hz
      omega
theorem refmakes_is (l : List Int) (hr : rightB l = true) (k : Nat) (hk : 700 ≤ k) : wherryref01_makes.f k l = some (makesB l) := by
  have hl := ((rightB_iff l).1 hr).1
  have h0 : allAt l 0 = 0 := by unfold allAt; exact (show allTo (fun _ => 0) 15 = 0 by decide)
  have := refmakes_loop l hr l.length 0 k 0 (by omega) (by omega) (fun h => by omega)
  rw [h0] at this
  exact this
end Go.Proofs.Ytlffpaploefljaa.Glue
namespace Go.Proofs.Ytlffpaploefljaa.Glue
open Go.RowKit Go.Proofs.Ytlffpaploefljaa.P Go.Proofs.YtlffpaploefljaaW.PrintWords Go.Proofs.YtlffpaploefljaaW.PrintLast Go.Proofs.YtlffpaploefljaaW.PrintMore
open WP (Row Bytes at_ val)

/-! The reference's codes, and what it reads by them. -/
theorem codesTo_last (l : List Int) (hx : ∀ x ∈ l, 0 ≤ x ∧ x ≤ 15) : codesTo l 16 0 = codesL l := by
  unfold codesTo codesL
  refine List.map_congr_left (fun j hj => ?_)
  have := hx _ (getD_mem (List.mem_range.1 hj))
  rw [if_pos (.inl (by omega))]
theorem refcodes_in {l : List Int} (hm : Makes l) (n : Nat) (h0 : 0 < n) (h15 : n ≤ 15) (res : Option (List Int)) (K : Nat) (hout : ∀ k, K ≤ k → wherryref01_codes.l0 k l (codesTo l (n + 1) 0) (upTo (cnt l) n : Int) ((n + 1 : Nat) : Int) = res) : ∀ (d i k : Nat), i + d = l.length → d + K < k →
    wherryref01_codes.l1 k l (codesTo l n (symsTo l i n).length) ((2 * upTo (cnt l) (n - 1) + (symsTo l i n).length : Nat) : Int) (n : Int) (i : Int) = res := by
  have hle := hm.len
  have hb := up_le (cnt l) hm.weigh (show n - 1 ≤ 15 by omega)
  have hp : 2 ^ (n - 1) ≤ 2 ^ 15 := Nat.pow_le_pow_right (by decide) (by omega)
  have he : openF l n = 2 * upTo (cnt l) (n - 1) := by
    obtain ⟨m, rfl⟩ : ∃ m, n = m + 1 := ⟨n - 1, by omega⟩
    exact openF_is l m
  have hu : upTo (cnt l) n = 2 * upTo (cnt l) (n - 1) + cnt l n := by
    obtain ⟨m, rfl⟩ : ∃ m, n = m + 1 := ⟨n - 1, by omega⟩
    rfl
  intro d
  induction d with
  | zero =>
    intro i k hi hk
    obtain ⟨k, rfl⟩ : ∃ m, k = m + 1 := ⟨k - 1, by omega⟩
    obtain rfl : i = l.length := by omega
    simp only [wherryref01_codes.l1]
    rw [if_neg (by omega), wrap64_in (by omega) (by omega), show (n : Int) + 1 = ((n + 1 : Nat) : Int) from by omega, codesTo_next l n hm.bounds, show 2 * upTo (cnt l) (n - 1) + (symsTo l l.length n).length = upTo (cnt l) n from hu.symm]
    exact hout k (by omega)
  | succ d ih =>
    intro i k hi hk
    obtain ⟨k, rfl⟩ : ∃ m, k = m + 1 := ⟨k - 1, by omega⟩
    have hil : i < l.length := by omega
    have hrk := rank_len l i n
    have hrl := symsTo_len l i n
    simp only [wherryref01_codes.l1]
    rw [if_pos (by omega), if_pos (by omega), rd_nat, wrap64_in (a := (i : Int) + 1) (by omega) (by omega), show (i : Int) + 1 = ((i + 1 : Nat) : Int) from by omega]
    by_cases h : l.getD i 0 = (n : Int)
    · rw [if_pos ⟨h, h0⟩] at hrk
      rw [if_pos h, if_pos (by rw [codesTo_length]; omega), Int.toNat_natCast, wrap64_in (by omega) (by omega)]
      have e := codesTo_step l h h0 rfl
      rw [he] at e
      rw [show ((2 * upTo (cnt l) (n - 1) + (symsTo l i n).length : Nat) : Int) = ((2 * upTo (cnt l) (n - 1) : Nat) : Int) + ((symsTo l i n).length : Int) from by omega, e, ← hrk, show ((2 * upTo (cnt l) (n - 1) : Nat) : Int) + ((symsTo l i n).length : Int) + 1 = ((2 * upTo (cnt l) (n - 1) + (symsTo l (i + 1) n).length : Nat) : Int) from by omega]
      exact ih (i + 1) k (by omega) (by omega)
    · rw [if_neg (fun hh => h hh.1)] at hrk
      rw [if_neg h, show (symsTo l i n).length = (symsTo l (i + 1) n).length from by omega]
      exact ih (i + 1) k (by omega) (by omega)
theorem refcodes_out {l : List Int} (hm : Makes l) : ∀ (d n : Nat), n + d = 15 → ∀ k, d * 400 + 10 ≤ k → wherryref01_codes.l0 k l (codesTo l (n + 1) 0) (upTo (cnt l) n : Int) ((n + 1 : Nat) : Int) = some (codesL l) := by
  have hle := hm.len
  intro d
  induction d with
  | zero =>
    intro n hn k hk
    obtain ⟨k, rfl⟩ : ∃ m, k = m + 1 := ⟨k - 1, by omega⟩
    obtain rfl : n = 15 := by omega
    simp only [wherryref01_codes.l0]
    rw [if_neg (by omega), codesTo_last l hm.bounds]
  | succ d ih =>
    intro n hn k hk
    obtain ⟨k, rfl⟩ : ∃ m, k = m + 1 := ⟨k - 1, by omega⟩
    have hb := up_le (cnt l) hm.weigh (show n ≤ 15 by omega)
    have hp : 2 ^ n ≤ 2 ^ 15 := Nat.pow_le_pow_right (by decide) (by omega)
    simp only [wherryref01_codes.l0]
    rw [if_pos (by omega), wrap64_in (by omega) (by omega)]
    have := refcodes_in hm (n + 1) (by omega) (by omega) (some (codesL l)) (d * 400 + 10) (fun k hk => ih (n + 1) (by omega) k hk) l.length 0 k (by omega) (by omega)
    rw [show (symsTo l 0 (n + 1)).length = 0 from rfl, Nat.add_sub_cancel, show ((2 * upTo (cnt l) n + 0 : Nat) : Int) = 2 * (upTo (cnt l) n : Int) from by omega] at this
    exact this
theorem refcodes_is {l : List Int} (hm : Makes l) (k : Nat) (hk : 7000 ≤ k) : wherryref01_codes.f k l = some (codesL l) := by
  have hle := hm.len
  unfold wherryref01_codes.f
  rw [if_pos (by omega), Int.toNat_natCast, if_pos (by omega), ← codesTo_start l]
  have e := codesTo_next l 0 hm.bounds
  have hz : (symsTo l l.length 0).length = 0 := by
    have : ∀ i, (symsTo l i 0).length = 0 := by
      intro i
      induction i with
      | zero => rfl
      | succ i ih => rw [rank_len, ih, if_neg (by omega)]
    exact this _
  rw [hz] at e
  rw [e]
  have := refcodes_out hm 15 0 (by omega) k (by omega)
  exact this
section
variable {l b : List Int} (hm : Makes l) (hb : Bytes b) (hl : b.length ≤ 100000) {a : Nat}
include hm
theorem refscan_none (n : Nat) (h0 : 0 < n) (h15 : n ≤ 15) (v : Nat) (hno : ∀ j, j < l.length → l.getD j 0 = (n : Int) → codeN l j n ≠ v) : ∀ (d i k : Nat), i + d = l.length → d < k →
    wherryref01_read.l1 k l (codesL l) b (a : Int) (v : Int) (n : Int) (i : Int) = wherryref01_read.l0 (k - d - 1) l (codesL l) b (a : Int) (v : Int) ((n + 1 : Nat) : Int) := by
  have hle := hm.len
  have hlc := codesL_length l
  intro d
  induction d with
  | zero =>
    intro i k hi hk
    obtain ⟨k, rfl⟩ : ∃ m, k = m + 1 := ⟨k - 1, by omega⟩
    simp only [wherryref01_read.l1]
    rw [if_neg (by omega), wrap64_in (by omega) (by omega), show (n : Int) + 1 = ((n + 1 : Nat) : Int) from by omega]
    rfl
  | succ d ih =>
    intro i k hi hk
    obtain ⟨k, rfl⟩ : ∃ m, k = m + 1 := ⟨k - 1, by omega⟩
    have hil : i < l.length := by omega
    have := ih (i + 1) k (by omega) (by omega)
    rw [show k - d - 1 = k + 1 - (d + 1) - 1 from by omega] at this
    simp only [wherryref01_read.l1]
    rw [if_pos (by omega), if_pos (by omega), rd_nat, rd_nat, wrap64_in (a := (i : Int) + 1) (by omega) (by omega), show (i : Int) + 1 = ((i + 1 : Nat) : Int) from by omega]
    by_cases h : l.getD i 0 = (n : Int)
    · rw [if_pos h, if_pos (by omega), codesL_get hil, codeOf_is h h0, if_neg (by have := hno i hil h; omega)]
      exact this
    · rw [if_neg h]
      exact this
theorem refscan_found (n : Nat) (h0 : 0 < n) (h15 : n ≤ 15) (v : Nat) {j : Nat} (hj : j < l.length) (hjn : l.getD j 0 = (n : Int)) (hjv : codeN l j n = v) (ha : a ≤ 1000000) : ∀ (d i k : Nat), i + d = j → d < k →
    wherryref01_read.l1 k l (codesL l) b (a : Int) (v : Int) (n : Int) (i : Int) = some ((j : Int), ((a + n : Nat) : Int)) := by
  have hle := hm.len
  have hlc := codesL_length l
  intro d
  induction d with
  | zero =>
    intro i k hi hk
    obtain ⟨k, rfl⟩ : ∃ m, k = m + 1 := ⟨k - 1, by omega⟩
    obtain rfl : i = j := by omega
    simp only [wherryref01_read.l1]
    rw [if_pos (by omega), if_pos (by omega), rd_nat, rd_nat, if_pos hjn, if_pos (by omega), codesL_get hj, codeOf_is hjn h0, if_pos (by omega), wrap64_in (by omega) (by omega)]
    rfl
  | succ d ih =>
    intro i k hi hk
    obtain ⟨k, rfl⟩ : ∃ m, k = m + 1 := ⟨k - 1, by omega⟩
    have hil : i < l.length := by omega
    have := ih (i + 1) k (by omega) (by omega)
    simp only [wherryref01_read.l1]
    rw [if_pos (by omega), if_pos (by omega), rd_nat, rd_nat, wrap64_in (a := (i : Int) + 1) (by omega) (by omega), show (i : Int) + 1 = ((i + 1 : Nat) : Int) from by omega]
    by_cases h : l.getD i 0 = (n : Int)
    · rw [if_pos h, if_pos (by omega), codesL_get hil, codeOf_is h h0, if_neg]
      · exact this
      · intro e
        have e2 : codeN l i n = codeN l j n := by omega
        unfold codeN at e2
        have := symsTo_uniq l h hjn h0 (by omega)
        omega
    · rw [if_neg h]
      exact this
include hb hl
omit hm in
/-- One length further. -/
theorem refread_step {n k : Nat} (h15 : n + 1 ≤ 15) (ha : a + (n + 1) ≤ 8 * b.length) (hk : 3 ≤ k) :
    wherryref01_read.l0 k l (codesL l) b (a : Int) (rdv (val b) a n : Int) ((n + 1 : Nat) : Int) = wherryref01_read.l1 (k - 2) l (codesL l) b (a : Int) (rdv (val b) a (n + 1) : Int) ((n + 1 : Nat) : Int) 0 := by
  obtain ⟨k, rfl⟩ : ∃ m, k = m + 2 := ⟨k - 2, by omega⟩
  have h1 := rdv_lt (val b) a n
  have h2 : 2 ^ n ≤ 2 ^ 15 := Nat.pow_le_pow_right (by decide) (by omega)
  have hbit : val b / 2 ^ (a + n) % 2 < 2 := Nat.mod_lt _ (by decide)
  have e : rdv (val b) a (n + 1) = 2 * rdv (val b) a n + val b / 2 ^ (a + n) % 2 := rfl
  simp only [wherryref01_read.l0]
  rw [if_pos (by omega), wrap64_in (a := (a : Int) + ((n + 1 : Nat) : Int)) (by omega) (by omega), wrap64_in (a := 8 * (b.length : Int)) (by omega) (by omega), decide_eq_true (by omega)]
  simp only [wherryref01_read.j1]
  rw [if_pos trivial, wrap64_in (a := (a : Int) + ((n + 1 : Nat) : Int)) (by omega) (by omega), wrap64_in (by omega) (by omega), show (a : Int) + ((n + 1 : Nat) : Int) - 1 = ((a + n : Nat) : Int) from by omega, refbit_is hb (by omega) _ (by omega), Option.bind_some, wrap64_in (a := 2 * (rdv (val b) a n : Int)) (by omega) (by omega)]
  generalize val b / 2 ^ (a + n) % 2 = t at hbit e ⊢
  rw [wrap64_in (by omega) (by omega), e, show 2 * (rdv (val b) a n : Int) + (t : Int) = ((2 * rdv (val b) a n + t : Nat) : Int) from by omega]
  rfl
theorem refread_skips (n : Nat) : n ≤ 15 → a + n ≤ 8 * b.length → (∀ m, m ≤ n → upTo (cnt l) m ≤ rdv (val b) a m) → ∀ k, n * 310 + 5 ≤ k → ∃ k', k ≤ k' + n * 310 ∧
    wherryref01_read.l0 k l (codesL l) b (a : Int) 0 1 = wherryref01_read.l0 k' l (codesL l) b (a : Int) (rdv (val b) a n : Int) ((n + 1 : Nat) : Int) := by
  have hle := hm.len
  induction n with
  | zero =>
    intro _ _ _ k hk
    refine ⟨k, by omega, ?_⟩
    rw [show ((rdv (val b) a 0 : Nat) : Int) = 0 from rfl, show ((0 + 1 : Nat) : Int) = 1 from rfl]
  | succ n ih =>
    intro h15 ha hu k hk
    have hk2 : n * 310 + 5 ≤ k := Nat.le_trans (Nat.add_le_add_right (Nat.mul_le_mul_right 310 (Nat.le_succ n)) 5) hk
    obtain ⟨k', hk', e⟩ := ih (by omega) (by omega) (fun m hmm => hu m (Nat.le_succ_of_le hmm)) k hk2
    refine ⟨k' - 2 - l.length - 1, by omega, ?_⟩
    rw [e, refread_step hb hl h15 ha (by omega)]
    have hn1 := hu (n + 1) (Nat.le_refl _)
    exact refscan_none hm (n + 1) (by omega) h15 _ (fun j hj hjn => by have := codeN_lt hj hjn (by omega); omega) l.length 0 (k' - 2) (by omega) (by omega)
end
end Go.Proofs.Ytlffpaploefljaa.Glue
