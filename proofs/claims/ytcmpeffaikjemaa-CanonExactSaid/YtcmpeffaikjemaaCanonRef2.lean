/- The reference's codes and what it reads by them are what canon's are; used by the claims of this seat. -/
import Derived.Test.YtcmpeffaikjemaaCanonRef
import Derived.Test.YtcmpeffaikjemaaPx2
import Derived.Test.YtcmpeffaikjemaaPx6
import Derived.Test.YtcmpeffaikjemaaPx7
import Derived.Test.YtcmpeffaikjemaaPx10
import Derived.Test.YtcmpeffaikjemaaPx11
namespace Go.Proofs.Ytcmpeffaikjemaa.Glue
open Go.RowKit Go.Proofs.Ytcmpeffaikjemaa.P Go.Proofs.YtcmpeffaikjemaaW.PrintWords Go.Proofs.YtcmpeffaikjemaaW.PrintLast Go.Proofs.YtcmpeffaikjemaaW.PrintMore
open WP (Row Bytes at_ val)

/-! The reference's codes, and what it reads by them. -/
theorem codesTo_last (l : List Int) (hx : ∀ x ∈ l, 0 ≤ x ∧ x ≤ 15) : codesTo l 16 0 = codesL l := by
  unfold codesTo codesL
  refine List.map_congr_left (fun j hj => ?_)
  have := hx _ (getD_mem (List.mem_range.1 hj))
  rw [if_pos (.inl (by omega))]
theorem refcodes_in {l : List Int} (hm : Makes l) (n : Nat) (h0 : 0 < n) (h15 : n ≤ 15) (res : Option (List Int)) (K : Nat) (hout : ∀ k, K ≤ k → wherryref01_codes.l0 k l (codesTo l (n + 1) 0) (upTo (cnt l) n : Int) ((n + 1 : Nat) : Int) = res) : ∀ (d i k : Nat), i + d = l.length → d + K < k →
    wherryref01_codes.l1 k l (codesTo l n (symsTo l i n).length) ((2 * upTo (cnt l) (n - 1) + (symsTo l i n).length : Nat) : Int) (n : Int) (i : Int) = res := by
  have hle := hm.len
  have hb := up_le (cnt l) hm.weigh (show n - 1 ≤ 15 by omega)
  have hp : 2 ^ (n - 1) ≤ 2 ^ 15 := Nat.pow_le_pow_right (by decide) (by omega)
  have he : openF l n = 2 * upTo (cnt l) (n - 1) := by
    obtain ⟨m, rfl⟩ : ∃ m, n = m + 1 := ⟨n - 1, by omega⟩
    exact openF_is l m
  have hu : upTo (cnt l) n = 2 * upTo (cnt l) (n - 1) + cnt l n := by
    obtain ⟨m, rfl⟩ : ∃ m, n = m + 1 := ⟨n - 1, by omega⟩
    rfl
  intro d
  induction d with
  | zero =>
    intro i k hi hk
    obtain ⟨k, rfl⟩ : ∃ m, k = m + 1 := ⟨k - 1, by omega⟩
    obtain rfl : i = l.length := by omega
    simp only [wherryref01_codes.l1]
    rw [if_neg (by omega), wrap64_in (by omega) (by omega), show (n : Int) + 1 = ((n + 1 : Nat) : Int) from by omega, codesTo_next l n hm.bounds, show 2 * upTo (cnt l) (n - 1) + (symsTo l l.length n).length = upTo (cnt l) n from hu.symm]
    exact hout k (by omega)
  | succ d ih =>
    intro i k hi hk
    obtain ⟨k, rfl⟩ : ∃ m, k = m + 1 := ⟨k - 1, by omega⟩
    have hil : i < l.length := by omega
    have hrk := rank_len l i n
    have hrl := symsTo_len l i n
    simp only [wherryref01_codes.l1]
    rw [if_pos (by omega), if_pos (by omega), rd_nat, wrap64_in (a := (i : Int) + 1) (by omega) (by omega), show (i : Int) + 1 = ((i + 1 : Nat) : Int) from by omega]
    by_cases h : l.getD i 0 = (n : Int)
    · rw [if_pos ⟨h, h0⟩] at hrk
      rw [if_pos h, if_pos (by rw [codesTo_length]; omega), Int.toNat_natCast, wrap64_in (by omega) (by omega)]
      have e := codesTo_step l h h0 rfl
      rw [he] at e
      rw [show ((2 * upTo (cnt l) (n - 1) + (symsTo l i n).length : Nat) : Int) = ((2 * upTo (cnt l) (n - 1) : Nat) : Int) + ((symsTo l i n).length : Int) from by omega, e, ← hrk, show ((2 * upTo (cnt l) (n - 1) : Nat) : Int) + ((symsTo l i n).length : Int) + 1 = ((2 * upTo (cnt l) (n - 1) + (symsTo l (i + 1) n).length : Nat) : Int) from by omega]
      exact ih (i + 1) k (by omega) (by omega)
    · rw [if_neg (fun hh => h hh.1)] at hrk
      rw [if_neg h, show (symsTo l i n).length = (symsTo l (i + 1) n).length from by omega]
      exact ih (i + 1) k (by omega) (by omega)
theorem refcodes_out {l : List Int} (hm : Makes l) : ∀ (d n : Nat), n + d = 15 → ∀ k, d * 400 + 10 ≤ k → wherryref01_codes.l0 k l (codesTo l (n + 1) 0) (upTo (cnt l) n : Int) ((n + 1 : Nat) : Int) = some (codesL l) := by
  have hle := hm.len
  intro d
  induction d with
  | zero =>
    intro n hn k hk
    obtain ⟨k, rfl⟩ : ∃ m, k = m + 1 := ⟨k - 1, by omega⟩
    obtain rfl : n = 15 := by omega
    simp only [wherryref01_codes.l0]
    rw [if_neg (by omega), codesTo_last l hm.bounds]
  | succ d ih =>
    intro n hn k hk
    obtain ⟨k, rfl⟩ : ∃ m, k = m + 1 := ⟨k - 1, by omega⟩
    have hb := up_le (cnt l) hm.weigh (show n ≤ 15 by omega)
    have hp : 2 ^ n ≤ 2 ^ 15 := Nat.pow_le_pow_right (by decide) (by omega)
    simp only [wherryref01_codes.l0]
    rw [if_pos (by omega), wrap64_in (by omega) (by omega)]
    have := refcodes_in hm (n + 1) (by omega) (by omega) (some (codesL l)) (d * 400 + 10) (fun k hk => ih (n + 1) (by omega) k hk) l.length 0 k (by omega) (by omega)
    rw [show (symsTo l 0 (n + 1)).length = 0 from rfl, Nat.add_sub_cancel, show ((2 * upTo (cnt l) n + 0 : Nat) : Int) = 2 * (upTo (cnt l) n : Int) from by omega] at this
    exact this
theorem refcodes_is {l : List Int} (hm : Makes l) (k : Nat) (hk : 7000 ≤ k) : wherryref01_codes.f k l = some (codesL l) := by
  have hle := hm.len
  unfold wherryref01_codes.f
  rw [if_pos (by omega), Int.toNat_natCast, if_pos (by omega), ← codesTo_start l]
  have e := codesTo_next l 0 hm.bounds
  have hz : (symsTo l l.length 0).length = 0 := by
    have : ∀ i, (symsTo l i 0).length = 0 := by
      intro i
      induction i with
      | zero => rfl
      | succ i ih => rw [rank_len, ih, if_neg (by omega)]
    exact this _
  rw [hz] at e
  rw [e]
  have := refcodes_out hm 15 0 (by omega) k (by omega)
  exact this
theorem refCodes_is (l : List Int) (k : Nat) (hk : 7000 ≤ k) : wherryref01_Codes.f k l = canon_Codes.f l := by
  unfold wherryref01_Codes.f
  rw [refcheck_is l k (by omega)]
  obtain ⟨e, he, _⟩ := check_some l
  rw [he, Option.bind_some]
  by_cases h : e = 0
  · subst h
    rw [if_pos rfl, refcodes_is (makes_of he) k hk, codes_yes he]
    rfl
  · rw [if_neg h, codes_no he h]
section
variable {l b : List Int} (hm : Makes l) (hb : Bytes b) (hl : b.length ≤ 700) {a : Nat}
include hm
theorem refscan_none (n : Nat) (h0 : 0 < n) (h15 : n ≤ 15) (v : Nat) (hno : ∀ j, j < l.length → l.getD j 0 = (n : Int) → codeN l j n ≠ v) : ∀ (d i k : Nat), i + d = l.length → d < k →
    wherryref01_read.l1 k l (codesL l) b (a : Int) (v : Int) (n : Int) (i : Int) = wherryref01_read.l0 (k - d - 1) l (codesL l) b (a : Int) (v : Int) ((n + 1 : Nat) : Int) := by
  have hle := hm.len
  have hlc := codesL_length l
  intro d
  induction d with
  | zero =>
    intro i k hi hk
    obtain ⟨k, rfl⟩ : ∃ m, k = m + 1 := ⟨k - 1, by omega⟩
    simp only [wherryref01_read.l1]
    rw [if_neg (by omega), wrap64_in (by omega) (by omega), show (n : Int) + 1 = ((n + 1 : Nat) : Int) from by omega]
    rfl
  | succ d ih =>
    intro i k hi hk
    obtain ⟨k, rfl⟩ : ∃ m, k = m + 1 := ⟨k - 1, by omega⟩
    have hil : i < l.length := by omega
    have := ih (i + 1) k (by omega) (by omega)
    rw [show k - d - 1 = k + 1 - (d + 1) - 1 from by omega] at this
    simp only [wherryref01_read.l1]
    rw [if_pos (by omega), if_pos (by omega), rd_nat, rd_nat, wrap64_in (a := (i : Int) + 1) (by omega) (by omega), show (i : Int) + 1 = ((i + 1 : Nat) : Int) from by omega]
    by_cases h : l.getD i 0 = (n : Int)
    · rw [if_pos h, if_pos (by omega), codesL_get hil, codeOf_is h h0, if_neg (by have := hno i hil h; omega)]
      exact this
    · rw [if_neg h]
      exact this
theorem refscan_found (n : Nat) (h0 : 0 < n) (h15 : n ≤ 15) (v : Nat) {j : Nat} (hj : j < l.length) (hjn : l.getD j 0 = (n : Int)) (hjv : codeN l j n = v) (ha : a ≤ 10000) : ∀ (d i k : Nat), i + d = j → d < k →
    wherryref01_read.l1 k l (codesL l) b (a : Int) (v : Int) (n : Int) (i : Int) = some ((j : Int), ((a + n : Nat) : Int)) := by
  have hle := hm.len
  have hlc := codesL_length l
  intro d
  induction d with
  | zero =>
    intro i k hi hk
    obtain ⟨k, rfl⟩ : ∃ m, k = m + 1 := ⟨k - 1, by omega⟩
    obtain rfl : i = j := by omega
    simp only [wherryref01_read.l1]
    rw [if_pos (by omega), if_pos (by omega), rd_nat, rd_nat, if_pos hjn, if_pos (by omega), codesL_get hj, codeOf_is hjn h0, if_pos (by omega), wrap64_in (by omega) (by omega)]
    rfl
  | succ d ih =>
    intro i k hi hk
    obtain ⟨k, rfl⟩ : ∃ m, k = m + 1 := ⟨k - 1, by omega⟩
    have hil : i < l.length := by omega
    have := ih (i + 1) k (by omega) (by omega)
    simp only [wherryref01_read.l1]
    rw [if_pos (by omega), if_pos (by omega), rd_nat, rd_nat, wrap64_in (a := (i : Int) + 1) (by omega) (by omega), show (i : Int) + 1 = ((i + 1 : Nat) : Int) from by omega]
    by_cases h : l.getD i 0 = (n : Int)
    · rw [if_pos h, if_pos (by omega), codesL_get hil, codeOf_is h h0, if_neg]
      · exact this
      · intro e
        have e2 : codeN l i n = codeN l j n := by omega
        unfold codeN at e2
        have := symsTo_uniq l h hjn h0 (by omega)
        omega
    · rw [if_neg h]
      exact this
include hb hl
omit hm in
/-- One length further. -/
theorem refread_step {n k : Nat} (h15 : n + 1 ≤ 15) (ha : a + (n + 1) ≤ 8 * b.length) (hk : 3 ≤ k) :
    wherryref01_read.l0 k l (codesL l) b (a : Int) (rdv (val b) a n : Int) ((n + 1 : Nat) : Int) = wherryref01_read.l1 (k - 2) l (codesL l) b (a : Int) (rdv (val b) a (n + 1) : Int) ((n + 1 : Nat) : Int) 0 := by
  obtain ⟨k, rfl⟩ : ∃ m, k = m + 2 := ⟨k - 2, by omega⟩
  have h1 := rdv_lt (val b) a n
  have h2 : 2 ^ n ≤ 2 ^ 15 := Nat.pow_le_pow_right (by decide) (by omega)
  have hbit : val b / 2 ^ (a + n) % 2 < 2 := Nat.mod_lt _ (by decide)
  have e : rdv (val b) a (n + 1) = 2 * rdv (val b) a n + val b / 2 ^ (a + n) % 2 := rfl
  simp only [wherryref01_read.l0]
  rw [if_pos (by omega), wrap64_in (a := (a : Int) + ((n + 1 : Nat) : Int)) (by omega) (by omega), wrap64_in (a := 8 * (b.length : Int)) (by omega) (by omega), decide_eq_true (by omega)]
  simp only [wherryref01_read.j1]
  rw [if_pos trivial, wrap64_in (a := (a : Int) + ((n + 1 : Nat) : Int)) (by omega) (by omega), wrap64_in (by omega) (by omega), show (a : Int) + ((n + 1 : Nat) : Int) - 1 = ((a + n : Nat) : Int) from by omega, refbit_is hb (by omega) _ (by omega), Option.bind_some, wrap64_in (a := 2 * (rdv (val b) a n : Int)) (by omega) (by omega)]
  generalize val b / 2 ^ (a + n) % 2 = t at hbit e ⊢
  rw [wrap64_in (by omega) (by omega), e, show 2 * (rdv (val b) a n : Int) + (t : Int) = ((2 * rdv (val b) a n + t : Nat) : Int) from by omega]
  rfl
theorem refread_skips (n : Nat) : n ≤ 15 → a + n ≤ 8 * b.length → (∀ m, m ≤ n → upTo (cnt l) m ≤ rdv (val b) a m) → ∀ k, n * 310 + 5 ≤ k → ∃ k', k ≤ k' + n * 310 ∧
    wherryref01_read.l0 k l (codesL l) b (a : Int) 0 1 = wherryref01_read.l0 k' l (codesL l) b (a : Int) (rdv (val b) a n : Int) ((n + 1 : Nat) : Int) := by
  have hle := hm.len
  induction n with
  | zero =>
    intro _ _ _ k hk
    refine ⟨k, by omega, ?_⟩
    rw [show ((rdv (val b) a 0 : Nat) : Int) = 0 from rfl, show ((0 + 1 : Nat) : Int) = 1 from rfl]
  | succ n ih =>
    intro h15 ha hu k hk
    have hk2 : n * 310 + 5 ≤ k := Nat.le_trans (Nat.add_le_add_right (Nat.mul_le_mul_right 310 (Nat.le_succ n)) 5) hk
    obtain ⟨k', hk', e⟩ := ih (by omega) (by omega) (fun m hmm => hu m (Nat.le_succ_of_le hmm)) k hk2
    refine ⟨k' - 2 - l.length - 1, by omega, ?_⟩
    rw [e, refread_step hb hl h15 ha (by omega)]
    have hn1 := hu (n + 1) (Nat.le_refl _)
    exact refscan_none hm (n + 1) (by omega) h15 _ (fun j hj hjn => by have := codeN_lt hj hjn (by omega); omega) l.length 0 (k' - 2) (by omega) (by omega)
theorem refread_is (ha : a ≤ 8 * b.length) (k : Nat) (hk : 6000 ≤ k) : ∃ s p, wherryref01_read.f k l (codesL l) b (a : Int) = some (s, p) ∧ ((∃ j : Nat, s = (j : Int) ∧ nextOf l b a = some (s, p, true)) ∨ (s = -1 ∧ nextOf l b a = some (0, 0, false))) := by
  unfold wherryref01_read.f
  have hle := hm.len
  have none_ : ∀ n, n ≤ 15 → a + n ≤ 8 * b.length → (∀ m, m ≤ n → upTo (cnt l) m ≤ rdv (val b) a m) → (n = 15 ∨ a + n = 8 * b.length) → ∃ s p, wherryref01_read.l0 k l (codesL l) b (a : Int) 0 1 = some (s, p) ∧ ((∃ j : Nat, s = (j : Int) ∧ nextOf l b a = some (s, p, true)) ∨ (s = -1 ∧ nextOf l b a = some (0, 0, false))) := by
    intro n h15 han hu hend
    obtain ⟨k', hk', e⟩ := refread_skips hm hb hl n h15 han hu k (by omega)
    refine ⟨-1, 0, ?_, .inr ⟨rfl, next_none hm hb (by omega) h15 han hu hend⟩⟩
    obtain ⟨k', rfl⟩ : ∃ m, k' = m + 2 := ⟨k' - 2, by omega⟩
    rw [e]
    simp only [wherryref01_read.l0]
    by_cases h : n = 15
    · subst h
      rw [if_neg (by omega)]
      simp only [wherryref01_read.j1]
      rw [if_neg (by decide)]
    · rw [if_pos (by omega), wrap64_in (a := (a : Int) + ((n + 1 : Nat) : Int)) (by omega) (by omega), wrap64_in (a := 8 * (b.length : Int)) (by omega) (by omega), decide_eq_false (by omega)]
      simp only [wherryref01_read.j1]
      rw [if_neg (by decide)]
  have hK : ∃ K, K ≤ 15 ∧ a + K ≤ 8 * b.length ∧ (K = 15 ∨ a + K = 8 * b.length) := by
    by_cases h : a + 15 ≤ 8 * b.length
    · exact ⟨15, by omega, h, .inl rfl⟩
    · exact ⟨8 * b.length - a, by omega, by omega, .inr (by omega)⟩
  obtain ⟨K, hK1, hK2, hK3⟩ := hK
  rcases next_either l b a K with h | ⟨m, r, h15, hr, hcn, hu⟩
  · exact none_ K hK1 hK2 h hK3
  · obtain ⟨j, hj, ej, hjn, h0, hjr⟩ := sym_at hcn
    have hn := next_found hm hb (by omega) (show m + 1 ≤ 15 by omega) (by omega) hr hcn
    rw [ej] at hn
    obtain ⟨k', hk', e⟩ := refread_skips hm hb hl m (by omega) (by omega) hu k (by omega)
    refine ⟨(j : Int), ((a + (m + 1) : Nat) : Int), ?_, .inl ⟨j, rfl, hn⟩⟩
    rw [e, refread_step hb hl (by omega) (by omega) (by omega)]
    have := refscan_found hm (m + 1) (by omega) (by omega) (rdv (val b) a (m + 1)) hj hjn (by unfold codeN; rw [hjr, hr]; simp) (by omega : a ≤ 10000) j 0 (k' - 2) (by omega) (by omega) (b := b)
    exact this
end
theorem refRead_is (l b : List Int) (hb : Bytes b) (hl : b.length ≤ 700) (at' : Int) (k : Nat) (hk : 8000 ≤ k) : wherryref01_Read.f k l b at' = canon_Read.f l b at' := by
  unfold wherryref01_Read.f canon_Read.f
  rw [refcheck_is l k (by omega)]
  obtain ⟨e, he, _⟩ := check_some l
  rw [he, Option.bind_some, Option.bind_some]
  by_cases h : e = 0
  · subst h
    have hm := makes_of he
    rw [if_pos rfl, if_pos rfl, refin_is, Option.bind_some]
    by_cases hin : 0 ≤ at' ∧ at' ≤ wrap64 (8 * (b.length : Int))
    · have hw : wrap64 (8 * (b.length : Int)) = 8 * (b.length : Int) := wrap64_in (by omega) (by omega)
      rw [if_pos (decide_eq_true hin), if_neg (by omega), refcodes_is hm k (by omega), Option.bind_some]
      obtain ⟨a, rfl⟩ := Int.eq_ofNat_of_zero_le hin.1
      obtain ⟨s, p, hrd, hor⟩ := refread_is hm hb hl (a := a) (by omega) k (by omega)
      rw [hrd, Option.bind_some]
      unfold nextOf at hor
      rcases hor with ⟨j, rfl, hn⟩ | ⟨rfl, hn⟩
      · rw [hn, Option.bind_some]
        dsimp only
        rw [if_neg (by omega)]
        rfl
      · rw [hn, Option.bind_some]
        rfl
    · rw [if_neg (by simpa using hin), if_pos (by omega)]
  · rw [if_neg h, if_neg h]
end Go.Proofs.Ytcmpeffaikjemaa.Glue
